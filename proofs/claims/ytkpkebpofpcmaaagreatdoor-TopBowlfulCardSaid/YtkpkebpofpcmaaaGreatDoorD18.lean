/- Walks of the package deed: an auction of two bids. -/
import Derived.Test.YtkpkebpofpcmaaaGreatDoorD17
namespace Go.Proofs.YtkpkebpofpcmaaaGreatDoor
open Go Go.Eng Go.RowKit Go.Proofs
set_option maxHeartbeats 4000000
set_option maxRecDepth 10000
attribute [local irreducible] TL TC TQ

def apartB (a b : Sp) : Bool := decide (a.2 ≤ b.1 ∨ b.2 ≤ a.1)
theorem c77 (a b : Sp) (w : World) : Calls Tryz.prog 77 #[.agg (encSp a).toArray, .agg (encSp b).toArray] w (RetV w (.bool (apartB a b))) := by
  unfold apartB
  refine enter (args := [.agg (encSp a).toArray, .agg (encSp b).toArray]) Tryz.func77 rfl Tryz.ntmps77 rfl (SH.refl _) ?_
  repeat' (first | refine rn ?_ | (refine zb ?_; intro _ _) | (refine za ?_; intro _ _) | (refine zs ?_; intro _ _))
  refine TL_gsplit_dec rfl rfl (fun g1 => ?_) (fun g1 => ?_)
  · repeat' (first | refine rn ?_ | (refine zb ?_; intro _ _) | (refine za ?_; intro _ _) | (refine zs ?_; intro _ _))
    exact TQ_ret1 Tryz.results77 (RV.tmp rfl) (fun w' hs => RetV.yes (.inl g1) hs.below)
  · repeat' (first | refine rn ?_ | (refine zb ?_; intro _ _) | (refine za ?_; intro _ _) | (refine zs ?_; intro _ _))
    refine TQ_ret1 Tryz.results77 (RV.tmp rfl) (fun w' hs => ⟨?_, hs.below⟩)
    have : b.2 ≤ a.1 ↔ (a.2 ≤ b.1 ∨ b.2 ≤ a.1) := ⟨.inr, fun h => h.resolve_left g1⟩
    rw [decide_eq_decide.2 this]
theorem c72 (t : Sp) (l : List Bd) (ao : Option Addr) (c : Nat) (ht : Tn t 0 23040) (hn : l.length ≤ 12) (hb : ∀ x ∈ l, In x.who 1 9999 ∧ Tn x.turn t.1 t.2 ∧ In x.baisa 0 1000000000) (w : World) (hl : Sl w 4 encBd ao l) :
    Calls Tryz.prog 72 #[.agg (encSp t).toArray, .slice ao l.length c] w (RetV w (.int .i64 0)) := by
  refine enter (args := [.agg (encSp t).toArray, .slice ao l.length c]) Tryz.func72 rfl Tryz.ntmps72 rfl (SH.refl _) ?_
  repeat' (first | refine rn ?_ | (refine zb ?_; intro _ _) | (refine za ?_; intro _ _) | (refine zs ?_; intro _ _))
  rename_i b2 _
  refine TL_callV rfl rfl rfl (fun w h => c112 t 0 23040 w) ?_
  rw [decide_eq_true ht]
  repeat' (first | refine rn ?_ | (refine zb ?_; intro _ _) | (refine za ?_; intro _ _) | (refine zs ?_; intro _ _))
  refine TC_cond_dec rfl (fun g => by omega) (fun _ => ?_)
  repeat' (first | refine rn ?_ | (refine zb ?_; intro _ _) | (refine za ?_; intro _ _) | (refine zs ?_; intro _ _))
  refine TC_loop (σ := Nat) (fun k => k ≤ l.length) (fun k => [(2, .pointer (some ⟨b2, 0, none⟩)), (13, .slice ao l.length c), (14, .int .i64 l.length), (15, .int .i64 k)]) (fun k => [(b2, .cells (encSp t) 38)]) (fun k => l.length - k) 0 (Nat.zero_le _) sb (fun w h => h) (fun k hk => ?_)
  repeat' (first | refine rn ?_ | (refine zb ?_; intro _ _) | (refine za ?_; intro _ _) | (refine zs ?_; intro _ _))
  refine TC_cond_dec rfl (fun g1 => ?_) (fun g1 => ?_)
  · have hlt : k < l.length := by omega
    obtain ⟨x, hx⟩ : ∃ x, l[k]? = some x := ⟨_, List.getElem?_eq_getElem hlt⟩
    obtain ⟨h1, h2, h3⟩ := hb x (List.mem_of_getElem? hx)
    repeat' (first | refine rn ?_ | (refine zb ?_; intro _ _) | (refine za ?_; intro _ _) | (refine zs ?_; intro _ _))
    refine TL_index k rfl rfl rfl (fun w h => h.sl hl) rfl hlt (Nat.le_refl _) ?_
    refine TL_load_eln (u := x) rfl rfl (fun w h => h.sl hl) hx rfl ?_
    repeat' (first | refine rn ?_ | (refine zb ?_; intro _ _) | (refine za ?_; intro _ _) | (refine zs ?_; intro _ _))
    refine TL_callV rfl rfl rfl (fun w h => c113 x.who w) ?_
    rw [decide_eq_true h1]
    repeat' (first | refine rn ?_ | (refine zb ?_; intro _ _) | (refine za ?_; intro _ _) | (refine zs ?_; intro _ _))
    refine TL_callV rfl rfl rfl (fun w h => c112 x.turn t.1 t.2 w) ?_
    rw [decide_eq_true h2]
    repeat' (first | refine rn ?_ | (refine zb ?_; intro _ _) | (refine za ?_; intro _ _) | (refine zs ?_; intro _ _))
    refine TL_callV rfl rfl rfl (fun w h => c86 x.baisa 0 1000000000 w) ?_
    rw [decide_eq_true h3]
    repeat' (first | refine rn ?_ | (refine zb ?_; intro _ _) | (refine za ?_; intro _ _) | (refine zs ?_; intro _ _))
    exact TQ_round (k + 1) (by omega) (by omega) sb (fun w h => h.sub su)
  · repeat' (first | refine rn ?_ | (refine zb ?_; intro _ _) | (refine za ?_; intro _ _) | (refine zs ?_; intro _ _))
    exact TQ_ret1 Tryz.results72 (RV.tmp rfl) (fun w' hs => ⟨rfl, hs.below⟩)
def ovB (l : List Bd) (i j : Nat) : Bool := match l[i]?, l[j]? with
  | some a, some b => !apartB a.turn b.turn
  | _, _ => false
theorem c76 (l : List Bd) (ao : Option Addr) (c i j : Nat) (bb bi : Nat) (hi : i < l.length) (hj : j < l.length) (w : World) (hl : Sl w 4 encBd ao l) (h1 : Sl w 1 encV (some ⟨bb, 0, none⟩) [.slice ao l.length c]) (h2 : Sl w 1 encI (some ⟨bi, 0, none⟩) [(j : Int)]) :
    Calls Tryz.prog 76 #[.int .i64 i, .pointer (some ⟨bb, 0, none⟩), .pointer (some ⟨bi, 0, none⟩)] w (RetV w (.bool (ovB l i j))) := by
  obtain ⟨a, ha⟩ : ∃ x, l[i]? = some x := ⟨_, List.getElem?_eq_getElem hi⟩
  obtain ⟨b, hb⟩ : ∃ x, l[j]? = some x := ⟨_, List.getElem?_eq_getElem hj⟩
  have hne : l ≠ [] := fun e => by rw [e] at hi; simp at hi
  have e : ovB l i j = !apartB a.turn b.turn := by unfold ovB; rw [ha, hb]
  rw [e]
  refine enter (args := [.int .i64 i, .pointer (some ⟨bb, 0, none⟩), .pointer (some ⟨bi, 0, none⟩)]) Tryz.func76 rfl Tryz.ntmps76 rfl (SH.refl _) ?_
  repeat' (first | refine rn ?_ | (refine zb ?_; intro _ _) | (refine za ?_; intro _ _) | (refine zs ?_; intro _ _))
  apply TC_draw 12; kernel_rfl; exact Tryz.mixed
  · (refine' PG.val rfl rfl (by intro _X; refine TL_load_el1 (i := 0) (o := 0) rfl rfl (fun w h => h.sl h1) rfl rfl ?_; exact qe) ?_; rotate_left)
    (refine' pv ?_; rotate_left)
    (refine' PG.val rfl rfl (by intro _X; refine TL_index i rfl rfl rfl (fun w h => h.sl hl) rfl hi (Nat.le_refl _) ?_; exact qe) ?_; rotate_left)
    (refine' PG.val rfl rfl (by intro _X; refine TL_fieldAddr_el rfl rfl (fun w h => h.sl hl) hne ?_; exact qe) ?_; rotate_left)
    (refine' PG.val rfl rfl (by intro _X; refine TL_load_eln (u := a) rfl rfl (fun w h => h.sl hl) ha rfl ?_; exact qe) ?_; rotate_left)
    (refine' PG.val rfl rfl (by intro _X; refine TL_load_el1 (i := 0) (o := 0) rfl rfl (fun w h => h.sl h1) rfl rfl ?_; exact qe) ?_; rotate_left)
    (refine' PG.val rfl rfl (by intro _X; refine TL_load_el1 (i := 0) (o := 0) rfl rfl (fun w h => h.sl h2) rfl rfl ?_; exact qe) ?_; rotate_left)
    (refine' PG.val rfl rfl (by intro _X; refine TL_index j rfl rfl rfl (fun w h => h.sl hl) rfl hj (Nat.le_refl _) ?_; exact qe) ?_; rotate_left)
    (refine' PG.val rfl rfl (by intro _X; refine TL_fieldAddr_el rfl rfl (fun w h => h.sl hl) hne ?_; exact qe) ?_; rotate_left)
    (refine' PG.val rfl rfl (by intro _X; refine TL_load_eln (u := b) rfl rfl (fun w h => h.sl hl) hb rfl ?_; exact qe) ?_; rotate_left)
    (refine' PG.val rfl rfl (by intro _X; refine TL_callV rfl rfl rfl (fun w h => c77 a.turn b.turn w) ?_; exact qe) ?_; rotate_left)
    (refine' pv ?_; rotate_left)
    exact PG.nil
  change TL _ _ _ _ _ _ _ _ _ _ _
  repeat' (first | refine rn ?_ | (refine zb ?_; intro _ _) | (refine za ?_; intro _ _) | (refine zs ?_; intro _ _))
  exact TQ_ret1 Tryz.results76 (RV.tmp rfl) (fun w' hs => ⟨by unfold apartB; rw [decide_not], hs.below⟩)
theorem c78 (l : List Int) (ao : Option Addr) (c : Nat) (hc : l.length ≤ c) (hs0 : l ≠ [] → ∃ b, ao = some ⟨b, 0, none⟩) (w : World) : Calls Tryz.prog 78 #[.slice ao l.length c] w (RetV w (.slice ao l.length l.length)) := by
  refine enter (args := [.slice ao l.length c]) Tryz.func78 rfl Tryz.ntmps78 rfl (SH.refl _) ?_
  repeat' (first | refine rn ?_ | (refine zb ?_; intro _ _) | (refine za ?_; intro _ _) | (refine zs ?_; intro _ _))
  refine TL_slice3 l.length l.length rfl rfl rfl rfl rfl rfl (Nat.le_refl _) hc ?_
  repeat' (first | refine rn ?_ | (refine zb ?_; intro _ _) | (refine za ?_; intro _ _) | (refine zs ?_; intro _ _))
  refine TQ_ret1 Tryz.results78 (RV.tmp rfl) (fun w' hs => ⟨?_, hs.below⟩)
  by_cases h : l = []
  · subst h; rfl
  · obtain ⟨b, rfl⟩ := hs0 h
    rw [if_neg (fun e => h (List.eq_nil_of_length_eq_zero e)), mapAdd0]
theorem c74 (l : List Int) (ao : Option Addr) (c : Nat) (hn : l.length ≤ 100) (hne : l ≠ []) (w : World) (hl : Sl w 1 encI ao l) : Calls Tryz.prog 74 #[.slice ao l.length c] w (RetP w.heap.size w (fun q : Option Addr × Nat × Hp => .slice q.1 l.length q.2.1) (fun q => q.2.2) (fun q => RowE 3 1 encI q.1 q.2.1 q.2.2 l)) := by
  refine enter (args := [.slice ao l.length c]) Tryz.func74 rfl Tryz.ntmps74 rfl (SH.refl _) ?_
  repeat' (first | refine rn ?_ | (refine zb ?_; intro _ _) | (refine za ?_; intro _ _) | (refine zs ?_; intro _ _))
  obtain ⟨b, o, rfl⟩ := hl.some_ hne
  refine TL_eql_slnil rfl rfl (b := false) rfl ?_
  repeat' (first | refine rn ?_ | (refine zb ?_; intro _ _) | (refine za ?_; intro _ _) | (refine zs ?_; intro _ _))
  refine TL_append0 (l2 := l) (enc := encI) rfl (by rfl) rfl rfl rfl (fun w h => h.sl hl) (fun u _ => rfl) (by omega) (by simp [maxLen]; omega) (fun so sc ob hr => ?_)
  repeat' (first | refine rn ?_ | (refine zb ?_; intro _ _) | (refine za ?_; intro _ _) | (refine zs ?_; intro _ _))
  exact TQ_ret1 Tryz.results74 (RV.tmp rfl) (fun w' hs => ⟨(so, sc, ob), hr, rfl, hs.sub (List.sublist_append_left _ _)⟩)
def onV (bs bw bb bo : Nat) : Value := .func (.func 73) #[] #[.pointer (some ⟨bs, 0, none⟩), .pointer (some ⟨bw, 0, none⟩), .pointer (some ⟨bb, 0, none⟩), .pointer (some ⟨bo, 0, none⟩)]
def aucH (bs bw bb bo : Nat) (sum : Int) (won bids : Value) (G : Hp) : Hp := (bs, .cells [.int .i64 sum] 3) :: (bw, .cells [won] 55) :: (bb, .cells [bids] 93) :: (bo, .cells [onV bs bw bb bo] 154) :: G
/-- The last bid alone, which does not beat what is won. -/
theorem c73_leaf (l : List Bd) (ao : Option Addr) (c : Nat) (h2 : l.length = 2) (bs bw bb bo lb lc : Nat) (n sum : Int) (hns : n ≤ sum) (w : World) (hl : Sl w 1 encI (some ⟨lb, 0, none⟩) [1]) (hs : Sl w 1 encI (some ⟨bs, 0, none⟩) [sum]) (hb : Sl w 1 encV (some ⟨bb, 0, none⟩) [.slice ao l.length c]) :
    Calls Tryz.prog 73 #[.slice (some ⟨lb, 0, none⟩) 1 lc, .int .i64 n, .pointer (some ⟨bs, 0, none⟩), .pointer (some ⟨bw, 0, none⟩), .pointer (some ⟨bb, 0, none⟩), .pointer (some ⟨bo, 0, none⟩)] w (RetV w (.tuple #[])) := by
  rw [h2] at hb
  refine enter (args := [.slice (some ⟨lb, 0, none⟩) 1 lc, .int .i64 n, .pointer (some ⟨bs, 0, none⟩), .pointer (some ⟨bw, 0, none⟩), .pointer (some ⟨bb, 0, none⟩), .pointer (some ⟨bo, 0, none⟩)]) Tryz.func73 rfl Tryz.ntmps73 rfl (SH.refl _) ?_
  repeat' (first | refine rn ?_ | (refine zb ?_; intro _ _) | (refine za ?_; intro _ _) | (refine zs ?_; intro _ _))
  refine TL_load_el1 (i := 0) (o := 0) rfl rfl (fun w h => h.sl hs) rfl rfl ?_
  repeat' (first | refine rn ?_ | (refine zb ?_; intro _ _) | (refine za ?_; intro _ _) | (refine zs ?_; intro _ _))
  refine TC_cond_dec rfl (fun g => by omega) (fun _ => ?_)
  repeat' (first | refine rn ?_ | (refine zb ?_; intro _ _) | (refine za ?_; intro _ _) | (refine zs ?_; intro _ _))
  refine TL_index 0 rfl rfl rfl (fun w h => h.sl hl) rfl (by decide) (by decide) ?_
  refine TL_load_el1 (u := (1 : Int)) rfl rfl (fun w h => h.sl hl) rfl rfl ?_
  repeat' (first | refine rn ?_ | (refine zb ?_; intro _ _) | (refine za ?_; intro _ _) | (refine zs ?_; intro _ _))
  refine TL_load_el1 (i := 0) (o := 0) rfl rfl (fun w h => h.sl hb) rfl rfl ?_
  repeat' (first | refine rn ?_ | (refine zb ?_; intro _ _) | (refine za ?_; intro _ _) | (refine zs ?_; intro _ _))
  refine TC_loop (σ := Unit) (fun _ => True) (fun _ => [(29, .int .i64 0), (30, .int .i64 0)]) (fun _ => []) (fun _ => 0) () trivial sb (fun w h => h) (fun _ _ => ?_)
  repeat' (first | refine rn ?_ | (refine zb ?_; intro _ _) | (refine za ?_; intro _ _) | (refine zs ?_; intro _ _))
  exact TQ_end0 Tryz.results73 (fun w' hs => ⟨rfl, hs.below⟩)
theorem any1 (p : Int → Bool) (x : Int) : [x].any p = p x := by simp
/-- The first bid, the second one overlaps it. -/
theorem c73_first {w0 : World} {G : Hp} (l : List Bd) (ao : Option Addr) (c : Nat) (h2 : l.length = 2) (hov : ovB l 0 1 = true) (bs bw bb bo lb lc : Nat) (more : List Value) (n : Int) (hn : 0 < n) (w : World) (hs : SH w0.heap.size w0 w (aucH bs bw bb bo 0 (.slice none 0 0) (.slice ao l.length c) G)) (hl : (lb, Blk.cells (Value.int .i64 0 :: more) 3) ∈ G) (hb : Sl w0 4 encBd ao l) :
    Calls Tryz.prog 73 #[.slice (some ⟨lb, 0, none⟩) 1 lc, .int .i64 n, .pointer (some ⟨bs, 0, none⟩), .pointer (some ⟨bw, 0, none⟩), .pointer (some ⟨bb, 0, none⟩), .pointer (some ⟨bo, 0, none⟩)] w (RetP w0.heap.size w0 (fun _ : Option Addr × Nat × Hp => .tuple #[]) (fun q => aucH bs bw bb bo n (.slice q.1 1 q.2.1) (.slice ao l.length c) (q.2.2 ++ G)) (fun q => RowE 3 1 encI q.1 q.2.1 q.2.2 [0])) := by
  have hsl : ∀ (H : Hp) w', (lb, Blk.cells (Value.int .i64 0 :: more) 3) ∈ H → SH w0.heap.size w0 w' H → Sl w' 1 encI (some ⟨lb, 0, none⟩) [0] := fun H w' hm h => Sl.of_blk h hm (fun _ _ => rfl) ⟨more, rfl⟩
  refine enter (args := [.slice (some ⟨lb, 0, none⟩) 1 lc, .int .i64 n, .pointer (some ⟨bs, 0, none⟩), .pointer (some ⟨bw, 0, none⟩), .pointer (some ⟨bb, 0, none⟩), .pointer (some ⟨bo, 0, none⟩)]) Tryz.func73 rfl Tryz.ntmps73 rfl hs ?_
  unfold aucH
  repeat' (first | refine rn ?_ | (refine zb ?_; intro _ _) | (refine za ?_; intro _ _) | (refine zs ?_; intro _ _))
  refine TC_cond_dec rfl (fun _ => ?_) (fun g => by omega)
  repeat' (first | refine rn ?_ | (refine zb ?_; intro _ _) | (refine za ?_; intro _ _) | (refine zs ?_; intro _ _))
  refine TL_callN rfl rfl rfl (fun w h => c74 [0] (some ⟨lb, 0, none⟩) lc (by decide) (by simp) w (hsl _ w (by repeat (first | exact hl | apply List.mem_cons_of_mem)) h)) ?_
  rintro ⟨so, sc, ob⟩ hr
  dsimp only at hr ⊢
  repeat' (first | refine rn ?_ | (refine zb ?_; intro _ _) | (refine za ?_; intro _ _) | (refine zs ?_; intro _ _))
  refine TL_index 0 rfl rfl rfl (fun w h => hsl _ w (by repeat (first | exact hl | apply List.mem_append_right | apply List.mem_cons_of_mem)) h) rfl (by decide) (by decide) ?_
  refine TL_load_el1 (u := (0 : Int)) rfl rfl (fun w h => hsl _ w (by repeat (first | exact hl | apply List.mem_append_right | apply List.mem_cons_of_mem)) h) rfl rfl ?_
  repeat' (first | refine rn ?_ | (refine zb ?_; intro _ _) | (refine za ?_; intro _ _) | (refine zs ?_; intro _ _))
  rw [h2]
  refine TC_loop (σ := Nat) (fun k => k ≤ 1) (fun k => [(0, .slice (some ⟨lb, 0, none⟩) 1 lc), (1, .int .i64 n), (2, .pointer (some ⟨bs, 0, none⟩)), (3, .pointer (some ⟨bw, 0, none⟩)), (4, .pointer (some ⟨bb, 0, none⟩)), (5, .pointer (some ⟨bo, 0, none⟩)), (8, .int .i64 1), (29, .int .i64 1), (30, .int .i64 k)]) (fun k => aucH bs bw bb bo n (.slice so 1 sc) (.slice ao l.length c) (ob ++ G)) (fun k => 1 - k) 0 (by omega) sb (fun w h => ?_) (fun k hk => ?_)
  · rw [h2]
    unfold aucH
    refine h.perm ?_
    refine (List.Perm.cons _ (List.Perm.cons _ (List.Perm.cons _ List.perm_middle.symm))).trans ?_
    refine (List.Perm.cons _ (List.Perm.cons _ List.perm_middle.symm)).trans ?_
    exact (List.Perm.cons _ List.perm_middle.symm).trans List.perm_middle.symm
  unfold aucH
  repeat' (first | refine rn ?_ | (refine zb ?_; intro _ _) | (refine za ?_; intro _ _) | (refine zs ?_; intro _ _))
  refine TC_cond_dec rfl (fun g1 => ?_) (fun g1 => ?_)
  · have hk0 : k = 0 := by omega
    subst hk0
    repeat' (first | refine rn ?_ | (refine zb ?_; intro _ _) | (refine za ?_; intro _ _) | (refine zs ?_; intro _ _))
    rename_i b9 _
    refine TL_callV rfl rfl rfl (fun w h => c75 (fun x => ovB l x.toNat 1) 76 [.pointer (some ⟨bb, 0, none⟩), .pointer (some ⟨b9, 0, none⟩)] [0] (some ⟨lb, 0, none⟩) lc (by unfold Small; decide) w (hsl _ w (by repeat (first | exact hl | apply List.mem_append_right | apply List.mem_cons_of_mem)) h) (fun x hx w' hbb => ?_)) ?_
    · rw [List.mem_singleton.1 hx]
      exact c76 l ao c 0 1 bb b9 (by omega) (by omega) w' ((h.sl hb).mono hbb) ((Sl.of_blk (enc := encV) (k := 1) (l := [.slice ao l.length c]) h mm (fun _ _ => rfl) ⟨[], rfl⟩).mono hbb) ((Sl.of_blk (enc := encI) (k := 1) (l := [((1 : Nat) : Int)]) h (List.Mem.head _) (fun _ _ => rfl) ⟨[], rfl⟩).mono hbb)
    rw [any1, show ovB l (0 : Int).toNat 1 = true from hov]
    repeat' (first | refine rn ?_ | (refine zb ?_; intro _ _) | (refine za ?_; intro _ _) | (refine zs ?_; intro _ _))
    exact TQ_round 1 (by omega) (by omega) sb (fun w h => h.sub (List.sublist_cons_self _ _))
  · repeat' (first | refine rn ?_ | (refine zb ?_; intro _ _) | (refine za ?_; intro _ _) | (refine zs ?_; intro _ _))
    exact TQ_end0 Tryz.results73 (fun w' hs => ⟨(so, sc, ob), hr, rfl, by rw [h2] at hs; exact hs⟩)
theorem pm_auc {a b c d : Nat × Blk} {X Y : Hp} : (a :: b :: c :: d :: (X ++ Y)).Perm (X ++ (a :: b :: c :: d :: Y)) := (List.Perm.cons a pm_bk3).trans List.perm_middle.symm
/-- From the start. -/
theorem c73_top {w0 : World} (l : List Bd) (ao : Option Addr) (c : Nat) (h2 : l.length = 2) (hov : ovB l 0 1 = true) (x y : Bd) (hx : l[0]? = some x) (hy : l[1]? = some y) (hpx : 0 < x.baisa ∧ x.baisa ≤ 1000) (hxy : 0 ≤ y.baisa ∧ y.baisa ≤ x.baisa) (bs bw bb bo : Nat) (w : World) (hs : SH w0.heap.size w0 w (aucH bs bw bb bo 0 (.slice none 0 0) (.slice ao l.length c) [])) (hb : Sl w0 4 encBd ao l) :
    Calls Tryz.prog 73 #[.slice none 0 0, .int .i64 0, .pointer (some ⟨bs, 0, none⟩), .pointer (some ⟨bw, 0, none⟩), .pointer (some ⟨bb, 0, none⟩), .pointer (some ⟨bo, 0, none⟩)] w (RetP w0.heap.size w0 (fun _ : Option Addr × Nat × Hp => .tuple #[]) (fun q => aucH bs bw bb bo x.baisa (.slice q.1 1 q.2.1) (.slice ao l.length c) q.2.2) (fun q => RowE 3 1 encI q.1 q.2.1 q.2.2 [0])) := by
  have hne : l ≠ [] := fun e => by rw [e] at h2; cases h2
  refine enter (args := [.slice none 0 0, .int .i64 0, .pointer (some ⟨bs, 0, none⟩), .pointer (some ⟨bw, 0, none⟩), .pointer (some ⟨bb, 0, none⟩), .pointer (some ⟨bo, 0, none⟩)]) Tryz.func73 rfl Tryz.ntmps73 rfl hs ?_
  unfold aucH
  repeat' (first | refine rn ?_ | (refine zb ?_; intro _ _) | (refine za ?_; intro _ _) | (refine zs ?_; intro _ _))
  rw [h2]
  refine TC_loop (σ := Nat × Option (Option Addr × Nat × Hp)) (fun q => (q.1 = 0 ∧ q.2 = none) ∨ ((q.1 = 1 ∨ q.1 = 2) ∧ ∃ z, q.2 = some z ∧ RowE 3 1 encI z.1 z.2.1 z.2.2 [0])) (fun q => [(0, .slice none 0 0), (1, .int .i64 0), (2, .pointer (some ⟨bs, 0, none⟩)), (3, .pointer (some ⟨bw, 0, none⟩)), (4, .pointer (some ⟨bb, 0, none⟩)), (5, .pointer (some ⟨bo, 0, none⟩)), (8, .int .i64 0), (29, .int .i64 2), (30, .int .i64 q.1)]) (fun q => match q.2 with
    | none => aucH bs bw bb bo 0 (.slice none 0 0) (.slice ao l.length c) []
    | some z => aucH bs bw bb bo x.baisa (.slice z.1 1 z.2.1) (.slice ao l.length c) z.2.2) (fun q => 2 - q.1) (0, none) (.inl ⟨rfl, rfl⟩) sb (fun w h => by rw [h2]; exact h) (fun q hq => ?_)
  obtain ⟨k, z⟩ := q
  rcases hq with ⟨e1, e2⟩ | ⟨e1, z', e2, hz⟩
  · dsimp only at e1 e2
    subst e1 e2
    dsimp only
    unfold aucH
    repeat' (first | refine rn ?_ | (refine zb ?_; intro _ _) | (refine za ?_; intro _ _) | (refine zs ?_; intro _ _))
    rename_i b9 _
    refine TL_callV rfl rfl rfl (fun w h => c75 (fun _ => false) 76 [.pointer (some ⟨bb, 0, none⟩), .pointer (some ⟨b9, 0, none⟩)] [] none 0 (by unfold Small; decide) w (Sl.nil _ _ _ _) (fun x hx w' hbb => (by cases hx))) ?_
    repeat' (first | refine rn ?_ | (refine zb ?_; intro _ _) | (refine za ?_; intro _ _) | (refine zs ?_; intro _ _))
    apply TC_draw 13; kernel_rfl; exact Tryz.mixed
    · iterate 2 (refine' pv ?_; rotate_left)
      (refine' PG.val rfl rfl (by intro _X; refine TL_callV rfl rfl rfl (fun w h => c78 [] none 0 (Nat.le_refl _) (fun h => absurd rfl h) w) ?_; exact qe) ?_; rotate_left)
      (refine' pv ?_; rotate_left)
      (refine' PG.rel ((fun v h => ∃ b, v = .slice (some ⟨b, 0, none⟩) 1 1 ∧ h = [(b, .cells (encI (((0 : Nat) : Int) + 0)) 3)])) rfl rfl (by intro _X; apply TL_buildSlice; exact rfl; exact rfl; exact rfl; exact rfl; exact rfl; intro b _; exact TL_nil (TQ_QR (h := [(b, _)]) rfl ⟨b, rfl, rfl⟩ (fun _ h => h))) ?_; rotate_left)
      (refine' PG.rel (fun v h => ∃ so sc ob, v = .slice so 1 sc ∧ h = ob ∧ Row 3 1 encI so sc ob [(((0 : Nat) : Int) + 0)]) rfl rfl (by rintro _ _ ⟨vb, rfl, rfl⟩ _X; refine TL_append (l := []) (l2 := [(((0 : Nat) : Int) + 0)]) (enc := encI) (G := _) rfl (by rfl) rfl rfl rfl rfl rfl (Row.nil _ _ _) (List.Perm.refl _) (fun w h => Sl.of_blk h (List.Mem.head _) (fun _ _ => rfl) ⟨[], by rfl⟩) (fun u _ => rfl) (by simp) (by simp [maxLen]) (fun so sc ob hr => ?_); exact TL_nil (TQ_QR (h := ob) rfl ⟨so, sc, ob, rfl, rfl, hr⟩ (fun _ h => h))) ?_; rotate_left)
      iterate 3 (refine' pv ?_; rotate_left)
      (refine' PG.val rfl rfl (by intro _X; refine TL_index 0 rfl rfl rfl (fun w h => h.sl hb) rfl (by omega) (Nat.le_refl _) ?_; exact qe) ?_; rotate_left)
      (refine' PG.val rfl rfl (by intro _X; refine TL_fieldAddr_el rfl rfl (fun w h => h.sl hb) hne ?_; exact qe) ?_; rotate_left)
      (refine' PG.val rfl rfl (by intro _X; refine TL_load_el1 (u := x) rfl rfl (fun w h => h.sl hb) hx rfl ?_; exact qe) ?_; rotate_left)
      (refine' pv ?_; rotate_left)
      exact PG.nil
    rintro _ ob ⟨so, sc, _, rfl, rfl, hr⟩ _ _ ⟨vb, rfl, rfl⟩
    change TL _ _ _ _ _ _ _ _ _ _ _
    obtain ⟨lb, more, rfl, rfl, _, _, _⟩ : ∃ b more, so = some ⟨b, 0, none⟩ ∧ ob = [(b, .cells ([(((0 : Nat) : Int) + 0)].flatMap encI ++ more) 3)] ∧ _ ∧ _ ∧ _ := by
      rcases hr.2 with ⟨_, _, _, h⟩ | h
      · cases h
      · exact h
    rw [Int.zero_add]
    refine TL_call rfl rfl rfl _ _ _ (fun w h => c73_first (G := [(lb, Blk.cells (Value.int .i64 0 :: more) 3)]) l ao c h2 hov bs bw bb bo lb sc more x.baisa hpx.1 w ((h.sub (H' := [(lb, Blk.cells (Value.int .i64 0 :: more) 3)] ++ aucH bs bw bb bo 0 (.slice none 0 0) (.slice ao l.length c) []) (List.Sublist.append (List.sublist_append_left _ _) (List.sublist_cons_self _ _))).perm (pm_auc (X := [(lb, Blk.cells (Value.int .i64 0 :: more) 3)]) (Y := []))) (List.Mem.head _) hb) (fun q hq => ?_)
    repeat' (first | refine rn ?_ | (refine zb ?_; intro _ _) | (refine za ?_; intro _ _) | (refine zs ?_; intro _ _))
    exact TQ_round (1, some q) (.inr ⟨.inl rfl, q, rfl, hq⟩) (by dsimp only; omega) sb (fun w h => h.sub (List.Sublist.cons_cons _ (List.Sublist.cons_cons _ (List.Sublist.cons_cons _ (List.Sublist.cons_cons _ (List.sublist_append_left _ _))))))
  · dsimp only at e1 e2
    subst e2
    dsimp only
    rcases e1 with rfl | rfl
    · unfold aucH
      repeat' (first | refine rn ?_ | (refine zb ?_; intro _ _) | (refine za ?_; intro _ _) | (refine zs ?_; intro _ _))
      rename_i b9 _
      refine TL_callV rfl rfl rfl (fun w h => c75 (fun _ => false) 76 [.pointer (some ⟨bb, 0, none⟩), .pointer (some ⟨b9, 0, none⟩)] [] none 0 (by unfold Small; decide) w (Sl.nil _ _ _ _) (fun x hx w' hbb => (by cases hx))) ?_
      repeat' (first | refine rn ?_ | (refine zb ?_; intro _ _) | (refine za ?_; intro _ _) | (refine zs ?_; intro _ _))
      apply TC_draw 13; kernel_rfl; exact Tryz.mixed
      · iterate 2 (refine' pv ?_; rotate_left)
        (refine' PG.val rfl rfl (by intro _X; refine TL_callV rfl rfl rfl (fun w h => c78 [] none 0 (Nat.le_refl _) (fun h => absurd rfl h) w) ?_; exact qe) ?_; rotate_left)
        (refine' pv ?_; rotate_left)
        (refine' PG.rel ((fun v h => ∃ b, v = .slice (some ⟨b, 0, none⟩) 1 1 ∧ h = [(b, .cells (encI (((1 : Nat) : Int) + 0)) 3)])) rfl rfl (by intro _X; apply TL_buildSlice; exact rfl; exact rfl; exact rfl; exact rfl; exact rfl; intro b _; exact TL_nil (TQ_QR (h := [(b, _)]) rfl ⟨b, rfl, rfl⟩ (fun _ h => h))) ?_; rotate_left)
        (refine' PG.rel (fun v h => ∃ so sc ob, v = .slice so 1 sc ∧ h = ob ∧ Row 3 1 encI so sc ob [(((1 : Nat) : Int) + 0)]) rfl rfl (by rintro _ _ ⟨vb, rfl, rfl⟩ _X; refine TL_append (l := []) (l2 := [(((1 : Nat) : Int) + 0)]) (enc := encI) (G := _) rfl (by rfl) rfl rfl rfl rfl rfl (Row.nil _ _ _) (List.Perm.refl _) (fun w h => Sl.of_blk h (List.Mem.head _) (fun _ _ => rfl) ⟨[], by rfl⟩) (fun u _ => rfl) (by simp) (by simp [maxLen]) (fun so sc ob hr => ?_); exact TL_nil (TQ_QR (h := ob) rfl ⟨so, sc, ob, rfl, rfl, hr⟩ (fun _ h => h))) ?_; rotate_left)
        iterate 3 (refine' pv ?_; rotate_left)
        (refine' PG.val rfl rfl (by intro _X; refine TL_index 1 rfl rfl rfl (fun w h => h.sl hb) rfl (by omega) (Nat.le_refl _) ?_; exact qe) ?_; rotate_left)
        (refine' PG.val rfl rfl (by intro _X; refine TL_fieldAddr_el rfl rfl (fun w h => h.sl hb) hne ?_; exact qe) ?_; rotate_left)
        (refine' PG.val rfl rfl (by intro _X; refine TL_load_el1 (u := y) rfl rfl (fun w h => h.sl hb) hy rfl ?_; exact qe) ?_; rotate_left)
        (refine' pv ?_; rotate_left)
        exact PG.nil
      rintro _ ob ⟨so, sc, _, rfl, rfl, hr⟩ _ _ ⟨vb, rfl, rfl⟩
      change TL _ _ _ _ _ _ _ _ _ _ _
      obtain ⟨lb, more, rfl, rfl, _, _, _⟩ : ∃ b more, so = some ⟨b, 0, none⟩ ∧ ob = [(b, .cells ([(((1 : Nat) : Int) + 0)].flatMap encI ++ more) 3)] ∧ _ ∧ _ ∧ _ := by
        rcases hr.2 with ⟨_, _, _, h⟩ | h
        · cases h
        · exact h
      rw [Int.zero_add]
      refine TL_callV rfl rfl rfl (fun w h => c73_leaf l ao c h2 bs bw bb bo lb sc y.baisa x.baisa hxy.2 w (Sl.of_blk (enc := encI) (l := [1]) h (List.mem_append_left _ (List.Mem.head _)) (fun _ _ => rfl) ⟨more, rfl⟩) (Sl.of_blk (enc := encI) (l := [x.baisa]) h (List.mem_append_right _ (List.Mem.tail _ (List.Mem.head _))) (fun _ _ => rfl) ⟨[], rfl⟩) (Sl.of_blk (enc := encV) (l := [.slice ao l.length c]) h (List.mem_append_right _ (List.Mem.tail _ (List.Mem.tail _ (List.Mem.tail _ (List.Mem.head _))))) (fun _ _ => rfl) ⟨[], rfl⟩)) ?_
      repeat' (first | refine rn ?_ | (refine zb ?_; intro _ _) | (refine za ?_; intro _ _) | (refine zs ?_; intro _ _))
      exact TQ_round (2, some z') (.inr ⟨.inr rfl, z', rfl, hz⟩) (by dsimp only; omega) sb (fun w h => h.sub ((List.sublist_cons_self _ _).trans (List.sublist_append_right _ _)))
    · unfold aucH
      repeat' (first | refine rn ?_ | (refine zb ?_; intro _ _) | (refine za ?_; intro _ _) | (refine zs ?_; intro _ _))
      exact TQ_end0 Tryz.results73 (fun w' hs => ⟨z', hz, rfl, by rw [h2] at hs; exact hs⟩)
end Go.Proofs.YtkpkebpofpcmaaaGreatDoor
