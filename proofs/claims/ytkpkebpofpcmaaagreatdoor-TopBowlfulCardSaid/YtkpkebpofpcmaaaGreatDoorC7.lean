/- Walks of the package channel: Waters, Minutes. -/
import Derived.Test.YtkpkebpofpcmaaaGreatDoorC6
namespace Go.Proofs.YtkpkebpofpcmaaaGreatDoor
open Go Go.Eng Go.RowKit Go.Proofs
set_option maxHeartbeats 4000000
set_option maxRecDepth 10000
attribute [local irreducible] TL TC TQ

theorem c20 (n : Nt) (hn : OkNt n) (f : Sp) (hf : Ord f 0 13000000) (l : List Us) (ao : Option Addr) (c : Nat) (h60 : l.length ≤ 60) (hr : rightP n 0 l) (w : World) (hnc : Sl w 5 encCn n.cao n.canals) (hnf : Sl w 1 encI n.fao n.fields) (hl : Sl w 3 encUs ao l) :
    Calls Tryz.prog 20 #[.agg (encNt n).toArray, .agg (encSp f).toArray, .slice ao l.length c] w (RetP w.heap.size w (fun q : Nat × Nat × List Value × List Value × List Sp × List Sp => .tuple #[.slice (some ⟨q.1, 0, none⟩) n.fields.length n.fields.length, .slice (some ⟨q.2.1, 0, none⟩) n.canals.length n.canals.length, .int .i64 0]) (fun q => [(q.2.1, .cells q.2.2.2.1 25), (q.1, .cells q.2.2.1 25)])
      (fun q => Row 25 2 encSp (some ⟨q.1, 0, none⟩) n.fields.length [(q.1, .cells q.2.2.1 25)] q.2.2.2.2.1 ∧ Row 25 2 encSp (some ⟨q.2.1, 0, none⟩) n.canals.length [(q.2.1, .cells q.2.2.2.1 25)] q.2.2.2.2.2 ∧ q.2.2.2.2.1.length = n.fields.length ∧ q.2.2.2.2.2.length = n.canals.length ∧ ∃ dls : List (List Int), dls.length = l.length ∧ (q.2.2.2.2.1, q.2.2.2.2.2) = watW n f l dls)) := by
  refine enter (args := [.agg (encNt n).toArray, .agg (encSp f).toArray, .slice ao l.length c]) Tryz.func20 rfl Tryz.ntmps20 rfl (SH.refl _) ?_
  repeat' (first | refine rn ?_ | (refine zb ?_; intro _ _) | (refine za ?_; intro _ _) | (refine zs ?_; intro _ _))
  refine TL_callV rfl rfl rfl (fun w h => c49 n hn f hf w (h.sl hnc) (h.sl hnf)) ?_
  repeat' (first | refine rn ?_ | (refine zb ?_; intro _ _) | (refine za ?_; intro _ _) | (refine zs ?_; intro _ _))
  refine TL_callV rfl rfl rfl (fun w h => c58 n hn l ao c h60 hr w (h.sl hl)) ?_
  repeat' (first | refine rn ?_ | (refine zb ?_; intro _ _) | (refine za ?_; intro _ _) | (refine zs ?_; intro _ _))
  refine TL_callN rfl rfl rfl (fun w h => c59 n hn f hf l ao c h60 hr w (h.sl hnc) (h.sl hnf) (h.sl hl)) ?_
  rintro ⟨bF, bL, cF, cL, F, L⟩ hq
  dsimp only at hq ⊢
  repeat' (first | refine rn ?_ | (refine zb ?_; intro _ _) | (refine za ?_; intro _ _) | (refine zs ?_; intro _ _))
  exact TQ_ret3 Tryz.results20 (RV.tmp rfl) (RV.tmp rfl) (RV.tmp rfl) (fun w' hs => ⟨(bF, bL, cF, cL, F, L), hq, rfl, hs.sub (List.Sublist.cons_cons _ (List.Sublist.cons_cons _ (List.nil_sublist _)))⟩)
/-- The least at which a function says yes. -/
structure FirstR (hi : Int) (so : Int → Bool) (r : Int) : Prop where
  r0 : 0 ≤ r
  r1 : r ≤ hi + 1
  yes : r ≤ hi → so r = true
  no : r ≠ 0 → so (r - 1) = false
theorem c53 (hi : Int) (h0 : 0 ≤ hi) (h1 : hi ≤ 100000) (cl : List Value) (so : Int → Bool) (w : World)
    (hso : ∀ m, 0 ≤ m → m ≤ hi → ∀ w', Below w.heap.size w w' → Calls Tryz.prog 55 (.int .i64 m :: cl).toArray w' (RetV w' (.bool (so m)))) :
    Calls Tryz.prog 53 #[.int .i64 hi, .func (.func 55) #[] cl.toArray] w (RetP w.heap.size w (fun r : Int => .int .i64 r) (fun _ => []) (FirstR hi so)) := by
  refine enter (args := [.int .i64 hi, .func (.func 55) #[] cl.toArray]) Tryz.func53 rfl Tryz.ntmps53 rfl (SH.refl _) ?_
  repeat' (first | refine rn ?_ | (refine zb ?_; intro _ _) | (refine za ?_; intro _ _) | (refine zs ?_; intro _ _))
  refine TC_loop (σ := Int × Int) (fun q => 0 ≤ q.1 ∧ q.1 ≤ q.2 ∧ q.2 ≤ hi + 1 ∧ (q.2 ≤ hi → so q.2 = true) ∧ (q.1 ≠ 0 → so (q.1 - 1) = false)) (fun q => [(0, .int .i64 hi), (1, .func (.func 55) #[] cl.toArray), (5, .int .i64 q.1), (6, .int .i64 q.2)]) (fun q => []) (fun q => (q.2 - q.1).toNat) (0, hi + 1) ⟨Int.le_refl _, by dsimp only; omega, Int.le_refl _, fun h => by dsimp only at h; omega, fun h => absurd rfl h⟩ sb (fun w h => h) (fun q hq => ?_)
  obtain ⟨lo, en⟩ := q
  obtain ⟨a1, a2, a3, a4, a5⟩ := hq
  dsimp only at a1 a2 a3 a4 a5 ⊢
  repeat' (first | refine rn ?_ | (refine zb ?_; intro _ _) | (refine za ?_; intro _ _) | (refine zs ?_; intro _ _))
  refine TC_cond_dec rfl (fun g1 => ?_) (fun g1 => ?_)
  · repeat' (first | refine rn ?_ | (refine zb ?_; intro _ _) | (refine za ?_; intro _ _) | (refine zs ?_; intro _ _))
    refine TL_callV rfl rfl rfl (fun w h => hso (lo + (en - lo) / 2) (by omega) (by omega) w h.below) ?_
    repeat' (first | refine rn ?_ | (refine zb ?_; intro _ _) | (refine za ?_; intro _ _) | (refine zs ?_; intro _ _))
    cases hs : so (lo + (en - lo) / 2) with
    | true =>
      repeat' (first | refine rn ?_ | (refine zb ?_; intro _ _) | (refine za ?_; intro _ _) | (refine zs ?_; intro _ _))
      exact TQ_round (lo, lo + (en - lo) / 2) ⟨a1, by dsimp only; omega, by dsimp only; omega, fun _ => hs, a5⟩ (by dsimp only; omega) sb (fun w h => h)
    | false =>
      repeat' (first | refine rn ?_ | (refine zb ?_; intro _ _) | (refine za ?_; intro _ _) | (refine zs ?_; intro _ _))
      exact TQ_round (lo + (en - lo) / 2 + 1, en) ⟨by dsimp only; omega, by dsimp only; omega, a3, a4, fun _ => by dsimp only; rw [Int.add_sub_cancel]; exact hs⟩ (by dsimp only; omega) sb (fun w h => h)
  · have : lo = en := by omega
    subst this
    repeat' (first | refine rn ?_ | (refine zb ?_; intro _ _) | (refine za ?_; intro _ _) | (refine zs ?_; intro _ _))
    exact TQ_ret1 Tryz.results53 (RV.tmp rfl) (fun w' hs => ⟨lo, ⟨a1, a3, a4, a5⟩, rfl, hs⟩)
/-- The least that comes of v where all canals are dry. -/
def loW (n : Nt) : List Int → Int → Int
  | [], v => v
  | c :: cs, v => loW n cs (goesM (workM (cnAt n c) true) (v, v)).1
structure MinR (w : World) (n : Nt) (f : Sp) (want : Int) (b5 b12 b4 b7 : Nat) (po : Option Addr) (pc : Nat) (path : List Int) : Prop where
  hf : Sl w 2 encSp (some ⟨b5, 0, none⟩) [f]
  hp : Sl w 1 slV (some ⟨b12, 0, none⟩) [.slice po path.length pc]
  hn : Sl w 4 encNt (some ⟨b4, 0, none⟩) [n]
  hw : Sl w 1 encI (some ⟨b7, 0, none⟩) [want]
  hl : Sl w 1 encI po path
  hc : Sl w 5 encCn n.cao n.canals
theorem c55 (n : Nt) (hn : OkNt n) (f : Sp) (hf : Ord f 0 13000000) (want : Int) (b5 b12 b4 b7 : Nat) (po : Option Addr) (pc : Nat) (path : List Int) (h17 : path.length ≤ 17) (hp : ∀ c ∈ path, 0 ≤ c ∧ c.toNat < n.canals.length) (m : Int) (m0 : 0 ≤ m) (m1 : m ≤ 23040) (w : World) (hR : MinR w n f want b5 b12 b4 b7 po pc path) :
    Calls Tryz.prog 55 #[.int .i64 m, .pointer (some ⟨b5, 0, none⟩), .pointer (some ⟨b12, 0, none⟩), .pointer (some ⟨b4, 0, none⟩), .pointer (some ⟨b7, 0, none⟩)] w (RetV w (.bool (decide (want ≤ loW n path (f.1 * m))))) := by
  have hv0 := mulW_ok hf m0 m1
  obtain ⟨⟨v1, v2⟩, _⟩ := hv0
  dsimp only [mulW] at v1 v2
  refine enter (args := [.int .i64 m, .pointer (some ⟨b5, 0, none⟩), .pointer (some ⟨b12, 0, none⟩), .pointer (some ⟨b4, 0, none⟩), .pointer (some ⟨b7, 0, none⟩)]) Tryz.func55 rfl Tryz.ntmps55 rfl (SH.refl _) ?_
  repeat' (first | refine rn ?_ | (refine zb ?_; intro _ _) | (refine za ?_; intro _ _) | (refine zs ?_; intro _ _))
  refine TL_load_el1 (i := 0) (o := 0) rfl rfl (fun w h => h.sl hR.hf) rfl rfl ?_
  repeat' (first | refine rn ?_ | (refine zb ?_; intro _ _) | (refine za ?_; intro _ _) | (refine zs ?_; intro _ _))
  refine TL_load_el1 (u := .slice po path.length pc) (i := 0) (o := 0) rfl rfl (fun w h => h.sl hR.hp) rfl rfl ?_
  repeat' (first | refine rn ?_ | (refine zb ?_; intro _ _) | (refine za ?_; intro _ _) | (refine zs ?_; intro _ _))
  refine TC_loop (σ := Nat × Int) (fun q => q.1 ≤ path.length ∧ VB q.2 ∧ loW n (path.drop q.1) q.2 = loW n path (f.1 * m)) (fun q => [(3, .pointer (some ⟨b4, 0, none⟩)), (4, .pointer (some ⟨b7, 0, none⟩)), (7, .int .i64 q.2), (14, .slice po path.length pc), (15, .int .i64 path.length), (16, .int .i64 q.1)]) (fun q => []) (fun q => path.length - q.1) (0, f.1 * m) ⟨Nat.zero_le _, ⟨v1, v2⟩, rfl⟩ sb (fun w h => h) (fun q hq => ?_)
  obtain ⟨k, v⟩ := q
  obtain ⟨hk, hv, hlo⟩ := hq
  dsimp only at hk hv hlo ⊢
  repeat' (first | refine rn ?_ | (refine zb ?_; intro _ _) | (refine za ?_; intro _ _) | (refine zs ?_; intro _ _))
  refine TC_cond_dec rfl (fun g1 => ?_) (fun g1 => ?_)
  · have hkl : k < path.length := by omega
    obtain ⟨cc, hcc⟩ : ∃ x, path[k]? = some x := ⟨_, List.getElem?_eq_getElem hkl⟩
    obtain ⟨hc0, hcl⟩ := hp cc (List.mem_of_getElem? hcc)
    obtain ⟨cn, hcn⟩ : ∃ x, n.canals[cc.toNat]? = some x := ⟨_, List.getElem?_eq_getElem hcl⟩
    have hcnok : CnOk cn := by have := hn.can _ _ hcn; exact ⟨this.2.1, this.2.2⟩
    have hcat : cnAt n cc = cn := by unfold cnAt; rw [List.getD_eq_getElem?_getD, hcn]; rfl
    rw [List.drop_eq_getElem_cons hkl, loW, show path[k] = cc from by have := List.getElem?_eq_getElem hkl; rw [hcc] at this; exact (Option.some.inj this).symm, hcat] at hlo
    repeat' (first | refine rn ?_ | (refine zb ?_; intro _ _) | (refine za ?_; intro _ _) | (refine zs ?_; intro _ _))
    refine TL_index k rfl rfl rfl (fun w h => h.sl hR.hl) rfl hkl (Nat.le_refl _) ?_
    refine TL_load_el1 (u := cc) rfl rfl (fun w h => h.sl hR.hl) hcc rfl ?_
    repeat' (first | refine rn ?_ | (refine zb ?_; intro _ _) | (refine za ?_; intro _ _) | (refine zs ?_; intro _ _))
    refine TL_load_el1 (i := 0) (o := 0) rfl rfl (fun w h => h.sl hR.hn) rfl rfl ?_
    repeat' (first | refine rn ?_ | (refine zb ?_; intro _ _) | (refine za ?_; intro _ _) | (refine zs ?_; intro _ _))
    refine TL_index cc.toNat rfl rfl rfl (fun w h => h.sl hR.hc) (by omega) hcl (Nat.le_refl _) ?_
    refine TL_load_eln (u := cn) rfl rfl (fun w h => h.sl hR.hc) hcn rfl ?_
    refine TL_callV rfl rfl rfl (fun w h => c56 cn hcnok true w) ?_
    repeat' (first | refine rn ?_ | (refine zb ?_; intro _ _) | (refine za ?_; intro _ _) | (refine zs ?_; intro _ _))
    refine TL_callV rfl rfl rfl (fun w h => c57 (workM cn true) (v, v) (workM_ok hcnok true) ⟨hv, hv⟩ w) ?_
    repeat' (first | refine rn ?_ | (refine zb ?_; intro _ _) | (refine za ?_; intro _ _) | (refine zs ?_; intro _ _))
    refine TL_field1 rfl rfl rfl ?_
    repeat' (first | refine rn ?_ | (refine zb ?_; intro _ _) | (refine za ?_; intro _ _) | (refine zs ?_; intro _ _))
    exact TQ_round (k + 1, (goesM (workM cn true) (v, v)).1) ⟨by dsimp only; omega, (goesM_ok (workM_ok hcnok true) (v := (v, v)) ⟨hv, hv⟩).1, hlo⟩ (by dsimp only; omega) sb (fun w h => h)
  · have hkl : k = path.length := by omega
    subst hkl
    rw [List.drop_length, loW] at hlo
    subst hlo
    repeat' (first | refine rn ?_ | (refine zb ?_; intro _ _) | (refine za ?_; intro _ _) | (refine zs ?_; intro _ _))
    refine TL_load_el1 (i := 0) (o := 0) rfl rfl (fun w h => h.sl hR.hw) rfl rfl ?_
    repeat' (first | refine rn ?_ | (refine zb ?_; intro _ _) | (refine za ?_; intro _ _) | (refine zs ?_; intro _ _))
    exact TQ_ret1 Tryz.results55 (RV.tmp rfl) (fun w' hs => ⟨rfl, hs.below⟩)
def soM (n : Nt) (f : Sp) (i : Nat) (want : Int) (m : Int) : Bool := decide (want ≤ loW n (pathM n i) (f.1 * m))
/-- What Minutes tells. -/
def MinP (n : Nt) (f : Sp) (i : Nat) (want : Int) (q : Int × Int) : Prop := q = (0, 6) ∨ (q.2 = 0 ∧ 0 ≤ q.1 ∧ q.1 ≤ n.days * 1440 ∧ soM n f i want q.1 = true ∧ (q.1 ≠ 0 → soM n f i want (q.1 - 1) = false))
theorem c18 (n : Nt) (hn : OkNt n) (f : Sp) (hf : Ord f 0 13000000) (i : Nat) (hi : i < n.fields.length) (want : Int) (w0 : 0 ≤ want) (w1 : want ≤ 1000000000000) (w : World) (hnc : Sl w 5 encCn n.cao n.canals) (hnf : Sl w 1 encI n.fao n.fields) :
    Calls Tryz.prog 18 #[.agg (encNt n).toArray, .agg (encSp f).toArray, .int .i64 i, .int .i64 want] w (RetP w.heap.size w (fun q : Int × Int => .tuple #[.int .i64 q.1, .int .i64 q.2]) (fun _ => []) (fun q => (q = (0, 6) ∧ soM n f i want (n.days * 1440) = false) ∨ (q.2 = 0 ∧ 0 ≤ q.1 ∧ q.1 ≤ n.days * 1440 ∧ soM n f i want q.1 = true ∧ (q.1 ≠ 0 → soM n f i want (q.1 - 1) = false)))) := by
  have hd := hn.days.1; have hd2 := hn.days.2
  have h12 := hn.f12
  have hpl : (pathM n i).length ≤ 17 := by unfold pathM; rw [List.length_reverse]; exact upF_len _ _
  refine enter (args := [.agg (encNt n).toArray, .agg (encSp f).toArray, .int .i64 i, .int .i64 want]) Tryz.func18 rfl Tryz.ntmps18 rfl (SH.refl _) ?_
  repeat' (first | refine rn ?_ | (refine zb ?_; intro _ _) | (refine za ?_; intro _ _) | (refine zs ?_; intro _ _))
  rename_i b4 _ b5 _ b7 _
  refine TL_callV rfl rfl rfl (fun w h => c49 n hn f hf w (h.sl hnc) (h.sl hnf)) ?_
  repeat' (first | refine rn ?_ | (refine zb ?_; intro _ _) | (refine za ?_; intro _ _) | (refine zs ?_; intro _ _))
  refine TL_callV rfl rfl rfl (fun w h => c50t n hn [(i : Int)] _ 1 (by simp [Small]) w (Sl.of_blk h (List.Mem.head _) (fun _ _ => rfl) ⟨[], rfl⟩) (fun x hx => by rw [List.mem_singleton.1 hx]; unfold In; omega)) ?_
  repeat' (first | refine rn ?_ | (refine zb ?_; intro _ _) | (refine za ?_; intro _ _) | (refine zs ?_; intro _ _))
  refine TL_callV rfl rfl rfl (fun w h => c51 0 1000000000000 [want] _ 1 (by simp [Small]) w (Sl.of_blk h (List.Mem.head _) (fun y _ => rfl) ⟨[], rfl⟩)) ?_
  rw [decide_eq_true (show ∀ x ∈ [want], In x 0 1000000000000 from fun x hx => by rw [List.mem_singleton.1 hx]; unfold In; omega)]
  repeat' (first | refine rn ?_ | (refine zb ?_; intro _ _) | (refine za ?_; intro _ _) | (refine zs ?_; intro _ _))
  refine TL_callN rfl rfl rfl (fun w h => c52 n hn i hi w (h.sl hnc) (h.sl hnf)) ?_
  rintro ⟨po, pc, pb⟩ hpr
  dsimp only at hpr ⊢
  repeat' (first | refine rn ?_ | (refine zb ?_; intro _ _) | (refine za ?_; intro _ _) | (refine zs ?_; intro _ _))
  rename_i b12 _
  refine TL_callV rfl rfl rfl (fun w h => c54 n hn w) ?_
  repeat' (first | refine rn ?_ | (refine zb ?_; intro _ _) | (refine za ?_; intro _ _) | (refine zs ?_; intro _ _))
  refine TL_callN rfl rfl rfl (fun w h => c53 (n.days * 1440) (by omega) (by omega) [.pointer (some ⟨b5, 0, none⟩), .pointer (some ⟨b12, 0, none⟩), .pointer (some ⟨b4, 0, none⟩), .pointer (some ⟨b7, 0, none⟩)] (soM n f i want) w (fun m m0 m1 w' hb => c55 n hn f hf want b5 b12 b4 b7 po pc (pathM n i) hpl (pathM_mem hn hi) m m0 (by omega) w'
    ⟨Sl.of_blk (h.ext hb) (by repeat (first | exact List.Mem.head _ | apply List.mem_cons_of_mem | apply List.mem_append_right)) (fun _ _ => rfl) ⟨[], rfl⟩, Sl.of_blk (h.ext hb) (by repeat (first | exact List.Mem.head _ | apply List.mem_cons_of_mem | apply List.mem_append_right)) (fun _ _ => rfl) ⟨[], rfl⟩, Sl.of_blk (h.ext hb) (by repeat (first | exact List.Mem.head _ | apply List.mem_cons_of_mem | apply List.mem_append_right)) (fun _ _ => rfl) ⟨[], rfl⟩, Sl.of_blk (h.ext hb) (by repeat (first | exact List.Mem.head _ | apply List.mem_cons_of_mem | apply List.mem_append_right)) (fun _ _ => rfl) ⟨[], rfl⟩, hpr.sl (h.ext hb) (fun p hp => List.mem_cons_of_mem _ (List.mem_append_left _ hp)), (h.ext hb).sl hnc⟩)) ?_
  intro r hr
  obtain ⟨p0, p1, p2, p3⟩ := hr
  repeat' (first | refine rn ?_ | (refine zb ?_; intro _ _) | (refine za ?_; intro _ _) | (refine zs ?_; intro _ _))
  refine TL_callV rfl rfl rfl (fun w h => c54 n hn w) ?_
  repeat' (first | refine rn ?_ | (refine zb ?_; intro _ _) | (refine za ?_; intro _ _) | (refine zs ?_; intro _ _))
  refine TC_cond_dec rfl (fun g1 => ?_) (fun g1 => ?_)
  · repeat' (first | refine rn ?_ | (refine zb ?_; intro _ _) | (refine za ?_; intro _ _) | (refine zs ?_; intro _ _))
    have e : r - 1 = n.days * 1440 := by omega
    exact TQ_ret2 Tryz.results18 (RV.tmp rfl) (RV.tmp rfl) (fun w' hs => ⟨(0, 6), .inl ⟨rfl, by rw [← e]; exact p3 (by omega)⟩, rfl, hs.sub (List.nil_sublist _)⟩)
  · repeat' (first | refine rn ?_ | (refine zb ?_; intro _ _) | (refine za ?_; intro _ _) | (refine zs ?_; intro _ _))
    exact TQ_ret2 Tryz.results18 (RV.tmp rfl) (RV.tmp rfl) (fun w' hs => ⟨(r, 0), .inr ⟨rfl, p0, by dsimp only; omega, p2 (by omega), p3⟩, rfl, hs.sub (List.nil_sublist _)⟩)
end Go.Proofs.YtkpkebpofpcmaaaGreatDoor
