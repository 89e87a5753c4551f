/- Walks of the package deed: runs, Owners. -/
import Derived.Test.YtkpkebpofpcmaaaGreatDoorEngR
import Derived.Test.YtkpkebpofpcmaaaGreatDoorS7
import Derived.Test.YtkpkebpofpcmaaaGreatDoorEngK
namespace Go.Proofs.YtkpkebpofpcmaaaGreatDoor
open Go Go.Eng Go.RowKit Go.Proofs
set_option maxHeartbeats 4000000
set_option maxRecDepth 10000
attribute [local irreducible] TL TC TQ

def runsF (f : Pc → Int) : Ho → List Pc → List Ho
  | now, [] => [now]
  | now, p :: l => if f p ≠ now.who then now :: runsF f ⟨f p, (p.turn.1, p.turn.2)⟩ l else runsF f ⟨now.who, (now.turn.1, p.turn.2)⟩ l
def runsM (f : Pc → Int) (l : List Pc) : List Ho := runsF f ⟨f (l.getD 0 pc0), (0, 0)⟩ l
theorem runsF_len (f : Pc → Int) : ∀ (l : List Pc) (now : Ho), 0 < (runsF f now l).length ∧ (runsF f now l).length ≤ l.length + 1
  | [], now => by simp [runsF]
  | p :: l, now => by
    rw [runsF]
    split
    · have := runsF_len f l ⟨f p, (p.turn.1, p.turn.2)⟩
      simp only [List.length_cons]; omega
    · have := runsF_len f l ⟨now.who, (now.turn.1, p.turn.2)⟩
      simp only [List.length_cons]; omega
def ho0 : Ho := ⟨0, (0, 0)⟩
theorem c63 (b : Nat) (kf : FuncId) (cl : List Value) (w : World) : Calls Tryz.prog 63 #[.pointer (some ⟨b, 0, none⟩), .func (.func kf) #[] cl.toArray] w (RetP w.heap.size w (fun q : Nat × Nat => .func (.func 107) #[] #[.pointer (some ⟨q.1, 0, none⟩), .pointer (some ⟨q.2, 0, none⟩)]) (fun q => [(q.1, .cells [.func (.func kf) #[] cl.toArray] 148), (q.2, .cells [.pointer (some ⟨b, 0, none⟩)] 110)]) (fun _ => True)) := by
  refine enter (args := [.pointer (some ⟨b, 0, none⟩), .func (.func kf) #[] cl.toArray]) Tryz.func63 rfl Tryz.ntmps63 rfl (SH.refl _) ?_
  repeat' (first | refine rn ?_ | (refine zb ?_; intro _ _) | (refine za ?_; intro _ _) | (refine zs ?_; intro _ _))
  rename_i b2 _ b3 _
  exact TQ_ret1 Tryz.results63 (RV.tmp rfl) (fun w' hs => ⟨(b3, b2), trivial, rfl, hs⟩)
theorem c107 {σ : Type} (f : Pc → Int) (kf : FuncId) (cl : List Value) [EntP Tryz.prog kf] (pcs : List Pc) (hne : pcs ≠ []) (hn : pcs.length ≤ 100000) (r : Ro) (b bm bw bb : Nat) (xx : Lc) (hrow : Row 116 5 encPc xx.ao xx.cap xx.ob pcs) (lp : Nat) {B : Nat} {w0 : World} (p : Nat → σ → Prop) (Y : Nat → σ → Hp) (G : Nat → Hp) (Z : σ → Hp) (x0 : σ) (hp0 : p 0 x0) (hY : ∀ j x, Y j x = G j ++ Z x)
    (m1 : ∀ y, (bw, Blk.cells [.func (.func kf) #[] cl.toArray] 148) ∈ Z y) (m2 : ∀ y, (bb, Blk.cells [.pointer (some ⟨b, 0, none⟩)] 110) ∈ Z y) (m3 : ∀ y, (b, Blk.cells (bkC r bm xx pcs.length) 119) ∈ Z y) (mo : ∀ y, ∀ q ∈ xx.ob, q ∈ Z y)
    (hcl : ∀ q ∈ pcs, ∀ (y : σ) (A : Hp) (w : World), (∀ u ∈ Z y, u ∈ A) → SH B w0 w A → Calls Tryz.prog kf (Value.agg (encPc q).toArray :: cl).toArray w (RetV w (.int .i64 (f q))))
    (hy : YldX Tryz.prog B w0 lp (runsM f pcs).length (fun j => [.agg (encHo ((runsM f pcs).getD j ho0)).toArray]) p Y (fun j => !(false && Nat.beq (j + 1) (runsM f pcs).length))) (w : World) (hs : SH B w0 w (Y 0 x0)) :
    Calls Tryz.prog 107 #[.func (.yield lp) #[] #[], .pointer (some ⟨bw, 0, none⟩), .pointer (some ⟨bb, 0, none⟩)] w (RetP B w0 (fun _ : σ => .tuple #[]) (Y (runsM f pcs).length) (p (runsM f pcs).length)) := by
  have k1 : ∀ (j : Nat) (y : σ), (bw, Blk.cells [.func (.func kf) #[] cl.toArray] 148) ∈ Y j y := fun j y => by rw [hY]; exact List.mem_append_right _ (m1 y)
  have k2 : ∀ (j : Nat) (y : σ), (bb, Blk.cells [.pointer (some ⟨b, 0, none⟩)] 110) ∈ Y j y := fun j y => by rw [hY]; exact List.mem_append_right _ (m2 y)
  have k3 : ∀ (j : Nat) (y : σ), (b, Blk.cells (bkC r bm xx pcs.length) 119) ∈ Y j y := fun j y => by rw [hY]; exact List.mem_append_right _ (m3 y)
  have ks : ∀ (j : Nat) (y : σ) (A : Hp) w, (∀ q ∈ Y j y, q ∈ A) → SH B w0 w A → Sl w 5 encPc xx.ao pcs := fun j y A w hA h => hrow.sl h (fun q hq => hA q (by rw [hY]; exact List.mem_append_right _ (mo y q hq)))
  have kc : ∀ q ∈ pcs, ∀ (j : Nat) (y : σ) (A : Hp) (w : World), (∀ u ∈ Y j y, u ∈ A) → SH B w0 w A → Calls Tryz.prog kf (Value.agg (encPc q).toArray :: cl).toArray w (RetV w (.int .i64 (f q))) := fun q hq j y A w hA h => hcl q hq y A w (fun u hu => hA u (by rw [hY]; exact List.mem_append_right _ hu)) h
  have hpos : 0 < pcs.length := List.length_pos_iff.2 hne
  obtain ⟨q0, hq0⟩ : ∃ q0, pcs[0]? = some q0 := ⟨_, List.getElem?_eq_getElem hpos⟩
  have eR : runsM f pcs = runsF f ⟨f q0, (0, 0)⟩ pcs := by unfold runsM; rw [List.getD_eq_getElem?_getD, hq0]; rfl
  obtain ⟨R, hR⟩ : ∃ R, R = runsM f pcs := ⟨_, rfl⟩
  rw [← hR] at hy eR ⊢
  refine enter (args := [.func (.yield lp) #[] #[], .pointer (some ⟨bw, 0, none⟩), .pointer (some ⟨bb, 0, none⟩)]) Tryz.func107 rfl Tryz.ntmps107 rfl hs ?_
  repeat' (first | refine rn ?_ | (refine zb ?_; intro _ _) | (refine za ?_; intro _ _) | (refine zs ?_; intro _ _))
  apply TC_draw 10; kernel_rfl; exact Tryz.mixed
  · (refine' PG.val rfl rfl (by intro _X; refine TL_load1 rfl rfl (T := 148) (cs := [.func (.func kf) #[] cl.toArray]) (by repeat (first | exact k1 _ _ | apply List.mem_append_right | apply List.mem_cons_of_mem)) rfl ?_; exact qe) ?_; rotate_left)
    (refine' PG.val rfl rfl (by intro _X; refine TL_load1 rfl rfl (T := 110) (cs := [.pointer (some ⟨b, 0, none⟩)]) (by repeat (first | exact k2 _ _ | apply List.mem_append_right | apply List.mem_cons_of_mem)) rfl ?_; exact qe) ?_; rotate_left)
    (refine' PG.val rfl rfl (by intro _X; refine TL_nilCheck rfl rfl ?_; exact qe) ?_; rotate_left)
    (refine' pv ?_; rotate_left)
    (refine' PG.val rfl rfl (by intro _X; refine TL_load1 rfl rfl (T := 119) (cs := bkC r bm xx pcs.length) (by repeat (first | exact k3 _ _ | apply List.mem_append_right | apply List.mem_cons_of_mem)) rfl ?_; exact qe) ?_; rotate_left)
    (refine' PG.val rfl rfl (by intro _X; refine TL_index 0 rfl rfl rfl (fun w h => ks 0 x0 _ w (fun q hq => by repeat (first | exact hq | apply List.mem_append_right | apply List.mem_cons_of_mem)) h) rfl hpos (Nat.le_refl _) ?_; exact qe) ?_; rotate_left)
    (refine' PG.val rfl rfl (by intro _X; refine TL_load_eln (u := q0) rfl rfl (fun w h => ks 0 x0 _ w (fun q hq => by repeat (first | exact hq | apply List.mem_append_right | apply List.mem_cons_of_mem)) h) hq0 rfl ?_; exact qe) ?_; rotate_left)
    (refine' PG.val rfl rfl (by intro _X; refine TL_callV rfl rfl rfl (fun w h => kc q0 (List.mem_of_getElem? hq0) 0 x0 _ w (fun q hq => by repeat (first | exact hq | apply List.mem_append_right | apply List.mem_cons_of_mem)) h) ?_; exact qe) ?_; rotate_left)
    (refine' pv ?_; rotate_left)
    (refine' pn ?_; rotate_left)
    exact PG.nil
  rintro _ _ ⟨bn, _, rfl, rfl⟩
  change TL _ _ _ _ _ _ _ _ _ _ _
  repeat' (first | refine rn ?_ | (refine zb ?_; intro _ _) | (refine za ?_; intro _ _) | (refine zs ?_; intro _ _))
  refine TL_load1 rfl rfl (T := 110) (cs := [.pointer (some ⟨b, 0, none⟩)]) (by repeat (first | exact k2 _ _ | apply List.mem_append_right | apply List.mem_cons_of_mem)) rfl ?_
  repeat' (first | refine rn ?_ | (refine zb ?_; intro _ _) | (refine za ?_; intro _ _) | (refine zs ?_; intro _ _) | (refine nk ?_))
  refine TL_load1 rfl rfl (T := 119) (cs := bkC r bm xx pcs.length) (by repeat (first | exact k3 _ _ | apply List.mem_append_right | apply List.mem_cons_of_mem)) rfl ?_
  repeat' (first | refine rn ?_ | (refine zb ?_; intro _ _) | (refine za ?_; intro _ _) | (refine zs ?_; intro _ _))
  refine TC_loop (σ := Nat × Nat × Ho × σ) (fun q => q.1 ≤ pcs.length ∧ p q.2.1 q.2.2.2 ∧ R.drop q.2.1 = runsF f q.2.2.1 (pcs.drop q.1)) (fun q => [(0, .func (.yield lp) #[] #[]), (1, .pointer (some ⟨bw, 0, none⟩)), (2, .pointer (some ⟨bb, 0, none⟩)), (4, .pointer (some ⟨bn, 0, none⟩)), (20, .slice xx.ao pcs.length xx.cap), (21, .int .i64 pcs.length), (22, .int .i64 q.1)]) (fun q => (bn, Blk.cells (encHo q.2.2.1) 40) :: Y q.2.1 q.2.2.2) (fun q => pcs.length - q.1) (0, 0, ⟨f q0, (0, 0)⟩, x0) ⟨Nat.zero_le _, hp0, eR⟩ sb (fun w h => h) (fun q hq => ?_)
  obtain ⟨k, j, now, y⟩ := q
  obtain ⟨hk, hpy, hrd⟩ := hq
  dsimp only at hk hpy hrd ⊢
  have hjn : j < R.length := by
    have := (runsF_len f (pcs.drop k) now).1
    rw [← hrd, List.length_drop] at this; omega
  repeat' (first | refine rn ?_ | (refine zb ?_; intro _ _) | (refine za ?_; intro _ _) | (refine zs ?_; intro _ _))
  refine TC_cond_dec rfl (fun g1 => ?_) (fun g1 => ?_)
  · have hlt : k < pcs.length := by omega
    obtain ⟨x, hx⟩ : ∃ x, pcs[k]? = some x := ⟨_, List.getElem?_eq_getElem hlt⟩
    have hxm := List.mem_of_getElem? hx
    rw [drop_cons hx, runsF] at hrd
    repeat' (first | refine rn ?_ | (refine zb ?_; intro _ _) | (refine za ?_; intro _ _) | (refine zs ?_; intro _ _))
    refine TL_index k rfl rfl rfl (fun w h => ks j y _ w (fun q hq => List.mem_cons_of_mem _ hq) h) rfl hlt (Nat.le_refl _) ?_
    refine TL_load_eln (u := x) rfl rfl (fun w h => ks j y _ w (fun q hq => List.mem_cons_of_mem _ hq) h) hx rfl ?_
    repeat' (first | refine rn ?_ | (refine zb ?_; intro _ _) | (refine za ?_; intro _ _) | (refine zs ?_; intro _ _))
    rename_i b6 _
    refine TL_load1 rfl rfl (T := 148) (cs := [.func (.func kf) #[] cl.toArray]) (by repeat (first | exact k1 _ _ | apply List.mem_append_right | apply List.mem_cons_of_mem)) rfl ?_
    repeat' (first | refine rn ?_ | (refine zb ?_; intro _ _) | (refine za ?_; intro _ _) | (refine zs ?_; intro _ _))
    refine TL_callV rfl rfl rfl (fun w h => kc x hxm j y _ w (fun q hq => List.mem_cons_of_mem _ (List.mem_cons_of_mem _ hq)) h) ?_
    repeat' (first | refine rn ?_ | (refine zb ?_; intro _ _) | (refine za ?_; intro _ _) | (refine zs ?_; intro _ _))
    refine TC_cond_dec rfl (fun g2 => ?_) (fun g2 => ?_)
    · rw [if_pos g2] at hrd
      have hRj : R[j]? = some now := by
        have := congrArg (fun l => l[0]?) hrd
        simpa using this
      have hrd2 : R.drop (j + 1) = runsF f ⟨f x, (x.turn.1, x.turn.2)⟩ (pcs.drop (k + 1)) := by
        have := congrArg List.tail hrd
        simpa using this
      repeat' (first | refine rn ?_ | (refine zb ?_; intro _ _) | (refine za ?_; intro _ _) | (refine zs ?_; intro _ _))
      refine TL_yieldX (G := [_, _]) rfl rfl rfl hy j y hjn hpy ?_ List.perm_append_comm (fun y' hpy' => ?_)
      · show [_] = [_]
        rw [List.getD_eq_getElem?_getD, hRj]; rfl
      refine TL_hp (H' := (b6, Blk.cells (encPc x) 116) :: (bn, Blk.cells (encHo now) 40) :: Y (j + 1) y') (List.perm_append_comm (l₁ := [_, _])) ?_
      repeat' (first | refine rn ?_ | (refine zb ?_; intro _ _) | (refine za ?_; intro _ _) | (refine zs ?_; intro _ _))
      refine TQ_round (k + 1, j + 1, ⟨f x, (x.turn.1, x.turn.2)⟩, y') ⟨by dsimp only; omega, hpy', hrd2⟩ (by dsimp only; omega) sb (fun w h => h.sub (List.sublist_cons_self _ _))
    · rw [if_neg g2] at hrd
      repeat' (first | refine rn ?_ | (refine zb ?_; intro _ _) | (refine za ?_; intro _ _) | (refine zs ?_; intro _ _))
      refine TQ_round (k + 1, j, ⟨now.who, (now.turn.1, x.turn.2)⟩, y) ⟨by dsimp only; omega, hpy, hrd⟩ (by dsimp only; omega) sb (fun w h => h.sub (List.sublist_cons_self _ _))
  · have ekl : k = pcs.length := by omega
    subst ekl
    rw [List.drop_length, runsF] at hrd
    have hRj : R[j]? = some now := by
      have := congrArg (fun l => l[0]?) hrd
      simpa using this
    have hRl : j + 1 = R.length := by
      have := congrArg List.length hrd
      rw [List.length_drop] at this
      simp at this; omega
    repeat' (first | refine rn ?_ | (refine zb ?_; intro _ _) | (refine za ?_; intro _ _) | (refine zs ?_; intro _ _))
    refine TL_yieldX (G := [_]) rfl rfl rfl hy j y hjn hpy ?_ List.perm_append_comm (fun y' hpy' => ?_)
    · show [_] = [_]
      rw [List.getD_eq_getElem?_getD, hRj]; rfl
    rw [hRl] at hpy' ⊢
    repeat' (first | refine rn ?_ | (refine zb ?_; intro _ _) | (refine za ?_; intro _ _) | (refine zs ?_; intro _ _))
    exact TQ_end0 Tryz.results107 (fun w' hs => ⟨y', hpy', rfl, hs.sub (List.sublist_append_left _ _)⟩)
def ownR (r : Ro) (l : List Dd) (day : Int) : List Ho := if (uM r l day).1 = 0 then runsM (fun p => p.owner) (uM r l day).2.1 else []
def useR (r : Ro) (l : List Dd) (day : Int) : List Ho := if (uM r l day).1 = 0 then runsM (fun p => userP p day) (uM r l day).2.1 else []
abbrev RwQ := Option Addr × Nat × Hp
theorem c24 (r : Ro) (l : List Dd) (ao : Option Addr) (c : Nat) (day : Int) (w : World) (hr : Sl w 3 encHo r.ao r.holds) (hrn : Small r.holds.length) (hd : DdsAt w ao l) :
    Calls Tryz.prog 24 #[.agg (encRo r).toArray, .slice ao l.length c, .int .i64 day] w (RetP w.heap.size w (fun q : RwQ × RwQ => .tuple #[.slice q.1.1 (ownR r l day).length q.1.2.1, .slice q.2.1 (useR r l day).length q.2.2.1, .int .i64 (uM r l day).1]) (fun q => q.2.2.2) (fun q => Row 40 3 encHo q.2.1 q.2.2.1 q.2.2.2 (useR r l day))) := by
  have hch := uM_ch (r := r) (l := l) (day := day)
  unfold ownR useR
  obtain ⟨U, hU⟩ : ∃ U, U = uM r l day := ⟨_, rfl⟩
  rw [← hU] at hch ⊢
  refine enterM (args := [.agg (encRo r).toArray, .slice ao l.length c, .int .i64 day]) Tryz.func24 rfl Tryz.ntmps24 rfl (SH.refl _) ?_
  repeat' (first | refine rn ?_ | (refine zb ?_; intro _ _) | (refine za ?_; intro _ _) | (refine zs ?_; intro _ _))
  rename_i b3 _ b5 _ b6 _ b7 _
  refine TL_callN rfl rfl rfl (fun w h => c40g r l ao c day w (h.sl hr) hrn ⟨h.sl hd.s, fun x hx => h.sl (hd.h x hx), hd.n, hd.hn⟩) ?_
  rw [← hU]
  rintro (_ | ⟨b, bm, x⟩) hq
  · have hne : U.1 ≠ 0 := hq
    rw [if_neg hne, if_neg hne]
    dsimp only [utV, utH]
    repeat' (first | refine rn ?_ | (refine zb ?_; intro _ _) | (refine za ?_; intro _ _) | (refine zs ?_; intro _ _))
    refine TC_cond_dec rfl (fun g1 => ?_) (fun g1 => absurd hq g1)
    repeat' (first | refine rn ?_ | (refine zb ?_; intro _ _) | (refine za ?_; intro _ _) | (refine zs ?_; intro _ _))
    exact TQ_leaveM0 (rs := [.cell 6 41, .cell 7 41, .tmp 8]) (vs := [.slice none 0 0, .slice none 0 0, .int .i64 U.1]) (.inl rfl) Tryz.results24 ⟨RV.cell1 rfl mm (by rfl), RV.cell1 rfl mm (by rfl), RV.tmp rfl, trivial⟩ (fun w' hs => ⟨((none, 0, []), (none, 0, [])), Row.nil _ _ _, rfl, hs.sub (List.nil_sublist _)⟩)
  obtain ⟨h0, hbk, hsl⟩ := hq
  rw [if_pos h0, if_pos h0, h0]
  obtain ⟨hro, _, hcp⟩ := hch h0
  have hend := (endR_eq hro).2.2
  have hne : U.2.1 ≠ [] := fun e => by rw [e] at hcp; simp [chP] at hcp; omega
  obtain ⟨P, hP⟩ : ∃ P, P = U.2.1 := ⟨_, rfl⟩
  rw [← hP] at hbk hsl hcp hne ⊢
  obtain ⟨R1, hR1⟩ : ∃ R1, R1 = runsM (fun p => p.owner) P := ⟨_, rfl⟩
  obtain ⟨R2, hR2⟩ : ∃ R2, R2 = runsM (fun p => userP p day) P := ⟨_, rfl⟩
  have hl1 : R1.length ≤ P.length + 1 := by rw [hR1]; exact (runsF_len _ _ _).2
  have hl2 : R2.length ≤ P.length + 1 := by rw [hR2]; exact (runsF_len _ _ _).2
  rw [← hR1, ← hR2]
  dsimp only [utV, utH]
  refine TL_hp (H' := (b6, Blk.cells [.slice none 0 0] 41) :: (b7, Blk.cells [.slice none 0 0] 41) :: (bkH r b bm x P.length [] ++ [(b5, Blk.cells [.int .i64 day] 3), (b3, Blk.cells (encRo r) 43)])) ((List.Perm.swap _ _ _).trans (List.perm_append_comm_assoc [(b7, Blk.cells [.slice none 0 0] 41), (b6, Blk.cells [.slice none 0 0] 41)] (bkH r b bm x P.length []) [(b5, Blk.cells [.int .i64 day] 3), (b3, Blk.cells (encRo r) 43)])) ?_
  obtain ⟨V, hV⟩ : ∃ V : Hp, V = bkH r b bm x P.length [] ++ [(b5, Blk.cells [.int .i64 day] 3), (b3, Blk.cells (encRo r) 43)] := ⟨_, rfl⟩
  have v1 : (b, Blk.cells (bkC r bm x P.length) 119) ∈ V := by rw [hV]; exact List.mem_append_left _ (List.Mem.head _)
  have v2 : ∀ q ∈ x.ob, q ∈ V := fun q hq => by rw [hV]; exact List.mem_append_left _ (List.mem_cons_of_mem _ (List.mem_cons_of_mem _ (List.mem_append_left _ hq)))
  have v3 : (b5, Blk.cells [.int .i64 day] 3) ∈ V := by rw [hV]; exact List.mem_append_right _ (List.Mem.head _)
  rw [← hV]
  clear hV
  repeat' (first | refine rn ?_ | (refine zb ?_; intro _ _) | (refine za ?_; intro _ _) | (refine zs ?_; intro _ _))
  refine TL_callN rfl rfl rfl (fun w h => c63 b 64 [] w) ?_
  rintro ⟨bw, bb⟩ _
  dsimp only
  repeat' (first | refine rn ?_ | (refine zb ?_; intro _ _) | (refine za ?_; intro _ _) | (refine zs ?_; intro _ _))
  refine TC_rangeX (σ := Option Addr × Nat × Hp × Nat) (ps := [24]) (k := 107) rfl rfl R1.length false (fun h => by cases h) (fun j => [.agg (encHo (R1.getD j ho0)).toArray]) (fun j y => Row 40 3 encHo y.1 y.2.1 y.2.2.1 (R1.take y.2.2.2) ∧ y.2.2.2 = j)
    (fun y => (b6, Blk.cells [.slice y.1 y.2.2.2 y.2.1] 41) :: (y.2.2.1 ++ ((b7, Blk.cells [.slice none 0 0] 41) :: (bw, Blk.cells [.func (.func 64) #[] #[]] 148) :: (bb, Blk.cells [.pointer (some ⟨b, 0, none⟩)] 110) :: V))) (none, 0, [], 0) ⟨Row.nil _ _ _, rfl⟩ (fun j => rfl) (fun w h => h.perm ((List.perm_append_comm (l₁ := [_, _]) (l₂ := [_, _])).append_right V)) ?_ ?_ ?_
  · intro lp Dd rec j y G hj hpy
    obtain ⟨so, sc, ob, len⟩ := y
    obtain ⟨hrow, rfl⟩ := hpy
    dsimp only at hrow hj ⊢
    obtain ⟨h, hh⟩ : ∃ h, R1[len]? = some h := ⟨_, List.getElem?_eq_getElem hj⟩
    have eh : R1.getD len ho0 = h := by rw [List.getD_eq_getElem?_getD, hh]; rfl
    have htl : (R1.take len).length = len := by rw [List.length_take]; omega
    have hts := take_snoc hh
    rw [eh]
    refine TC_he (by simp only [List.cons_append, List.append_assoc, List.nil_append]; rfl) ?_
    repeat' (first | refine rn ?_ | (refine zb ?_; intro _ _) | (refine za ?_; intro _ _) | (refine zs ?_; intro _ _))
    rename_i b10 _
    refine TQ_asgX (rec := rec) up ?_
    repeat' (first | refine rn ?_ | (refine zb ?_; intro _ _) | (refine za ?_; intro _ _) | (refine zs ?_; intro _ _))
    rename_i vb _
    refine TL_append (l := R1.take len) (l2 := [h]) (enc := encHo) (G := _) rfl (by rfl) rfl rfl htl.symm rfl rfl hrow (pm_cons (pm_cons (pm_cons (pm_cons (pm_cons pm_here))))) (fun w h => Sl.of_blk h mm (fun _ _ => rfl) ⟨[], by rfl⟩) (fun u _ => rfl) (by rw [htl]; simp only [List.length_singleton]; omega) (by rw [htl]; simp only [List.length_singleton, maxLen]; omega) (fun so' sc' ob' hrow' => ?_)
    rw [← hts] at hrow' ⊢
    have htl2 : (R1.take (len + 1)).length = len + 1 := by rw [List.length_take]; omega
    rw [htl2]
    repeat' (first | refine rn ?_ | (refine zb ?_; intro _ _) | (refine za ?_; intro _ _) | (refine zs ?_; intro _ _))
    refine TQ_bodyX (so', sc', ob', len + 1) ⟨hrow', rfl⟩ (fun w h => ?_)
    have h2 := (h.sub (List.Sublist.append_left (List.Sublist.cons _ (List.Sublist.cons _ (List.Sublist.refl _))) _)).perm (List.perm_append_comm_assoc [_, _, _] _ _)
    simpa only [List.cons_append, List.append_assoc, List.nil_append] using h2
  · intro lp Y G hY hyld w hs
    subst hR1
    exact c107 (fun p => p.owner) 64 [] P hne hsl r b bm bw bb x hbk.row lp _ Y G _ (none, 0, [], 0) ⟨Row.nil _ _ _, rfl⟩ hY (fun y => List.mem_cons_of_mem _ (List.mem_append_right _ (List.mem_cons_of_mem _ (List.Mem.head _)))) (fun y => List.mem_cons_of_mem _ (List.mem_append_right _ (List.mem_cons_of_mem _ (List.mem_cons_of_mem _ (List.Mem.head _))))) (fun y => List.mem_cons_of_mem _ (List.mem_append_right _ (List.mem_cons_of_mem _ (List.mem_cons_of_mem _ (List.mem_cons_of_mem _ (v1)))))) (fun y q hq => List.mem_cons_of_mem _ (List.mem_append_right _ (List.mem_cons_of_mem _ (List.mem_cons_of_mem _ (List.mem_cons_of_mem _ (v2 q hq)))))) (fun q hq y A w hA h => c64 q w) hyld w hs
  intro D1 y1 hpy1
  obtain ⟨so1, sc1, ob1, len1⟩ := y1
  obtain ⟨hrow1, rfl⟩ := hpy1
  dsimp only at hrow1 ⊢
  rw [List.take_length] at hrow1
  change TQ _ _ _ _ _ _ _ .normal
  repeat' (first | refine rn ?_ | (refine zb ?_; intro _ _) | (refine za ?_; intro _ _) | (refine zs ?_; intro _ _))
  refine TL_callN rfl rfl rfl (fun w h => c63 b 65 [.pointer (some ⟨b5, 0, none⟩)] w) ?_
  rintro ⟨bw2, bb2⟩ _
  dsimp only
  refine TL_hp (H' := (b7, Blk.cells [.slice none 0 0] 41) :: (bw2, Blk.cells [.func (.func 65) #[] #[.pointer (some ⟨b5, 0, none⟩)]] 148) :: (bb2, Blk.cells [.pointer (some ⟨b, 0, none⟩)] 110) :: (D1, Blk.obj (.deferred (some []))) :: (b6, Blk.cells [.slice so1 R1.length sc1] 41) :: (ob1 ++ ((bw, Blk.cells [.func (.func 64) #[] #[]] 148) :: (bb, Blk.cells [.pointer (some ⟨b, 0, none⟩)] 110) :: V))) ?_ ?_
  · exact (List.perm_middle (a := (b7, _)) (l₁ := [_, _, _, _] ++ ob1)).symm
  repeat' (first | refine rn ?_ | (refine zb ?_; intro _ _) | (refine za ?_; intro _ _) | (refine zs ?_; intro _ _))
  refine TC_rangeX (σ := Option Addr × Nat × Hp × Nat) (ps := [32]) (k := 107) rfl rfl R2.length false (fun h => by cases h) (fun j => [.agg (encHo (R2.getD j ho0)).toArray]) (fun j y => Row 40 3 encHo y.1 y.2.1 y.2.2.1 (R2.take y.2.2.2) ∧ y.2.2.2 = j)
    (fun y => (b7, Blk.cells [.slice y.1 y.2.2.2 y.2.1] 41) :: (y.2.2.1 ++ ((bw2, Blk.cells [.func (.func 65) #[] #[.pointer (some ⟨b5, 0, none⟩)]] 148) :: (bb2, Blk.cells [.pointer (some ⟨b, 0, none⟩)] 110) :: (D1, Blk.obj (.deferred (some []))) :: (b6, Blk.cells [.slice so1 R1.length sc1] 41) :: (ob1 ++ ((bw, Blk.cells [.func (.func 64) #[] #[]] 148) :: (bb, Blk.cells [.pointer (some ⟨b, 0, none⟩)] 110) :: V))))) (none, 0, [], 0) ⟨Row.nil _ _ _, rfl⟩ (fun j => rfl) (fun w h => h.perm (List.Perm.refl _)) ?_ ?_ ?_
  · intro lp Dd rec j y G hj hpy
    obtain ⟨so, sc, ob, len⟩ := y
    obtain ⟨hrow, rfl⟩ := hpy
    dsimp only at hrow hj ⊢
    obtain ⟨h, hh⟩ : ∃ h, R2[len]? = some h := ⟨_, List.getElem?_eq_getElem hj⟩
    have eh : R2.getD len ho0 = h := by rw [List.getD_eq_getElem?_getD, hh]; rfl
    have htl : (R2.take len).length = len := by rw [List.length_take]; omega
    have hts := take_snoc hh
    rw [eh]
    refine TC_he (by simp only [List.cons_append, List.append_assoc, List.nil_append]; rfl) ?_
    repeat' (first | refine rn ?_ | (refine zb ?_; intro _ _) | (refine za ?_; intro _ _) | (refine zs ?_; intro _ _))
    rename_i b10 _
    refine TQ_asgX (rec := rec) up ?_
    repeat' (first | refine rn ?_ | (refine zb ?_; intro _ _) | (refine za ?_; intro _ _) | (refine zs ?_; intro _ _))
    rename_i vb _
    refine TL_append (l := R2.take len) (l2 := [h]) (enc := encHo) (G := _) rfl (by rfl) rfl rfl htl.symm rfl rfl hrow (pm_cons (pm_cons (pm_cons (pm_cons (pm_cons pm_here))))) (fun w h => Sl.of_blk h mm (fun _ _ => rfl) ⟨[], by rfl⟩) (fun u _ => rfl) (by rw [htl]; simp only [List.length_singleton]; omega) (by rw [htl]; simp only [List.length_singleton, maxLen]; omega) (fun so' sc' ob' hrow' => ?_)
    rw [← hts] at hrow' ⊢
    have htl2 : (R2.take (len + 1)).length = len + 1 := by rw [List.length_take]; omega
    rw [htl2]
    repeat' (first | refine rn ?_ | (refine zb ?_; intro _ _) | (refine za ?_; intro _ _) | (refine zs ?_; intro _ _))
    refine TQ_bodyX (so', sc', ob', len + 1) ⟨hrow', rfl⟩ (fun w h => ?_)
    have h2 := (h.sub (List.Sublist.append_left (List.Sublist.cons _ (List.Sublist.cons _ (List.Sublist.refl _))) _)).perm (List.perm_append_comm_assoc [_, _, _] _ _)
    simpa only [List.cons_append, List.append_assoc, List.nil_append] using h2
  · intro lp Y G hY hyld w hs
    subst hR2
    exact c107 (fun p => userP p day) 65 [.pointer (some ⟨b5, 0, none⟩)] P hne hsl r b bm bw2 bb2 x hbk.row lp _ Y G _ (none, 0, [], 0) ⟨Row.nil _ _ _, rfl⟩ hY (fun y => List.mem_cons_of_mem _ (List.mem_append_right _ (List.Mem.head _))) (fun y => List.mem_cons_of_mem _ (List.mem_append_right _ (List.mem_cons_of_mem _ (List.Mem.head _)))) (fun y => List.mem_cons_of_mem _ (List.mem_append_right _ (List.mem_cons_of_mem _ (List.mem_cons_of_mem _ (List.mem_cons_of_mem _ (List.mem_cons_of_mem _ (List.mem_append_right _ (List.mem_cons_of_mem _ (List.mem_cons_of_mem _ (v1)))))))))) (fun y q hq => List.mem_cons_of_mem _ (List.mem_append_right _ (List.mem_cons_of_mem _ (List.mem_cons_of_mem _ (List.mem_cons_of_mem _ (List.mem_cons_of_mem _ (List.mem_append_right _ (List.mem_cons_of_mem _ (List.mem_cons_of_mem _ (v2 q hq)))))))))) (fun q hq y A w hA h => c65 q day b5 w (Sl.of_blk (enc := encI) (k := 1) (l := [day]) h (hA _ (List.mem_cons_of_mem _ (List.mem_append_right _ (List.mem_cons_of_mem _ (List.mem_cons_of_mem _ (List.mem_cons_of_mem _ (List.mem_cons_of_mem _ (List.mem_append_right _ (List.mem_cons_of_mem _ (List.mem_cons_of_mem _ (v3))))))))))) (fun _ _ => rfl) ⟨[], rfl⟩)) hyld w hs
  intro D2 y2 hpy2
  obtain ⟨so2, sc2, ob2, len2⟩ := y2
  obtain ⟨hrow2, rfl⟩ := hpy2
  dsimp only at hrow2 ⊢
  rw [List.take_length] at hrow2
  change TQ _ _ _ _ _ _ _ .normal
  repeat' (first | refine rn ?_ | (refine zb ?_; intro _ _) | (refine za ?_; intro _ _) | (refine zs ?_; intro _ _))
  refine TC_join (σ := Unit) (fun _ => True) (fun _ => [(6, .pointer (some ⟨b6, 0, none⟩)), (7, .pointer (some ⟨b7, 0, none⟩)), (8, .int .i64 0)]) (fun _ => (D2, Blk.obj (.deferred (some []))) :: (b7, Blk.cells [.slice so2 R2.length sc2] 41) :: (ob2 ++ ((bw2, Blk.cells [.func (.func 65) #[] #[.pointer (some ⟨b5, 0, none⟩)]] 148) :: (bb2, Blk.cells [.pointer (some ⟨b, 0, none⟩)] 110) :: (D1, Blk.obj (.deferred (some []))) :: (b6, Blk.cells [.slice so1 R1.length sc1] 41) :: (ob1 ++ ((bw, Blk.cells [.func (.func 64) #[] #[]] 148) :: (bb, Blk.cells [.pointer (some ⟨b, 0, none⟩)] 110) :: V))))) ?_ (fun _ _ => ?_)
  · refine TC_any Tryz.mixed ?_
    refine TA_stepL [0, 1] (by kernel_rfl) rfl ⟨?_, ?_, trivial⟩
    · change TL _ _ _ _ _ _ _ _ _ _ _
      refine r1 ?_; apply TL_nil; apply TQ_any
      refine TA_stepL [1, 2] (by kernel_rfl) rfl ⟨?_, ?_, trivial⟩
      · change TL _ _ _ _ _ _ _ _ _ _ _
        refine r1 ?_; apply TL_nil; apply TQ_any
        refine TA_stepL [2] (by kernel_rfl) rfl ⟨?_, trivial⟩
        change TL _ _ _ _ _ _ _ _ _ _ _
        refine r1 ?_; apply TL_nil; apply TQ_any
        refine TA_stepL [3] (by kernel_rfl) rfl ⟨?_, trivial⟩
        change TL _ _ _ _ _ _ _ _ _ _ _
        refine r1 ?_; apply TL_nil; apply TQ_any
        refine TA_stepL [4] (by kernel_rfl) rfl ⟨?_, trivial⟩
        change TL _ _ _ _ _ _ _ _ _ _ _
        refine r1 ?_; apply TL_nil; apply TQ_any
        refine TA_done (by kernel_rfl) ?_
        exact TQ_mid () trivial sb (fun w h => h)
      · change TL _ _ _ _ _ _ _ _ _ _ _
        refine r1 ?_; apply TL_nil; apply TQ_any
        refine TA_stepL [1] (by kernel_rfl) rfl ⟨?_, trivial⟩
        change TL _ _ _ _ _ _ _ _ _ _ _
        refine r1 ?_; apply TL_nil; apply TQ_any
        refine TA_stepL [3] (by kernel_rfl) rfl ⟨?_, trivial⟩
        change TL _ _ _ _ _ _ _ _ _ _ _
        refine r1 ?_; apply TL_nil; apply TQ_any
        refine TA_stepL [4] (by kernel_rfl) rfl ⟨?_, trivial⟩
        change TL _ _ _ _ _ _ _ _ _ _ _
        refine r1 ?_; apply TL_nil; apply TQ_any
        refine TA_done (by kernel_rfl) ?_
        exact TQ_mid () trivial sb (fun w h => h)
    · change TL _ _ _ _ _ _ _ _ _ _ _
      refine r1 ?_; apply TL_nil; apply TQ_any
      refine TA_stepL [0] (by kernel_rfl) rfl ⟨?_, trivial⟩
      change TL _ _ _ _ _ _ _ _ _ _ _
      refine r1 ?_; apply TL_nil; apply TQ_any
      refine TA_stepL [2] (by kernel_rfl) rfl ⟨?_, trivial⟩
      change TL _ _ _ _ _ _ _ _ _ _ _
      refine r1 ?_; apply TL_nil; apply TQ_any
      refine TA_stepL [3] (by kernel_rfl) rfl ⟨?_, trivial⟩
      change TL _ _ _ _ _ _ _ _ _ _ _
      refine r1 ?_; apply TL_nil; apply TQ_any
      refine TA_stepL [4] (by kernel_rfl) rfl ⟨?_, trivial⟩
      change TL _ _ _ _ _ _ _ _ _ _ _
      refine r1 ?_; apply TL_nil; apply TQ_any
      refine TA_done (by kernel_rfl) ?_
      exact TQ_mid () trivial sb (fun w h => h)
  repeat' (first | refine rn ?_ | (refine zb ?_; intro _ _) | (refine za ?_; intro _ _) | (refine zs ?_; intro _ _))
  refine TQ_leaveMn (ds := [D2, D1]) (rs := [.cell 6 41, .cell 7 41, .tmp 8]) (vs := [.slice so1 R1.length sc1, .slice so2 R2.length sc2, .int .i64 0]) (H' := (b7, Blk.cells [.slice so2 R2.length sc2] 41) :: (ob2 ++ [(b6, Blk.cells [.slice so1 R1.length sc1] 41)])) (.inl rfl) (fun w h => ?_) Tryz.results24 ⟨RV.cell1 rfl mm (by rfl), RV.cell1 rfl mm (by rfl), RV.tmp rfl, trivial⟩ (fun w' hs => ⟨((so1, sc1, []), (so2, sc2, ob2)), hrow2, rfl, hs.sub (List.Sublist.cons _ (List.sublist_append_left _ _))⟩)
  have h2 := h.sub (H' := (D2, Blk.obj (.deferred (some []))) :: (b7, Blk.cells [.slice so2 R2.length sc2] 41) :: (ob2 ++ [(D1, Blk.obj (.deferred (some []))), (b6, Blk.cells [.slice so1 R1.length sc1] 41)])) (List.Sublist.cons_cons _ (List.Sublist.cons_cons _ (List.Sublist.append_left (List.Sublist.cons _ (List.Sublist.cons _ (List.Sublist.cons_cons _ (List.Sublist.cons_cons _ (List.nil_sublist _))))) _)))
  refine h2.perm (List.Perm.cons _ ?_)
  exact (List.perm_middle (l₁ := (b7, _) :: ob2)).symm
end Go.Proofs.YtkpkebpofpcmaaaGreatDoor
