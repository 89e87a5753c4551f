/- Walks of the package hour: whether a clock is valid. -/
import Derived.Test.YtkpkebpofpcmaaaGreatDoorEngR
import Derived.Test.YtkpkebpofpcmaaaGreatDoorT1
namespace Go.Proofs.YtkpkebpofpcmaaaGreatDoor
open Go Go.Eng Go.RowKit Go.Proofs
set_option maxHeartbeats 1000000
set_option maxRecDepth 10000
attribute [local irreducible] TL TC TQ

theorem c108 (x lo hi : Int) (b1 b2 : Nat) (w : World) (h1 : Sl w 1 encI (some ⟨b1, 0, none⟩) [lo]) (h2 : Sl w 1 encI (some ⟨b2, 0, none⟩) [hi]) :
    Calls Tryz.prog 108 #[.int .i64 x, .pointer (some ⟨b1, 0, none⟩), .pointer (some ⟨b2, 0, none⟩)] w (RetV w (.bool (decide (¬ In x lo hi)))) := by
  refine enter (args := [.int .i64 x, .pointer (some ⟨b1, 0, none⟩), .pointer (some ⟨b2, 0, none⟩)]) Tryz.func108 rfl Tryz.ntmps108 rfl (SH.refl _) ?_
  repeat' (first | refine rn ?_ | (refine zb ?_; intro _ _) | (refine za ?_; intro _ _) | (refine zs ?_; intro _ _))
  refine TL_load_el1 (i := 0) (o := 0) rfl rfl (fun w h => h.sl h1) rfl rfl ?_
  repeat' (first | refine rn ?_ | (refine zb ?_; intro _ _) | (refine za ?_; intro _ _) | (refine zs ?_; intro _ _))
  refine TL_gsplit_dec rfl rfl (fun g1 => ?_) (fun g1 => ?_)
  · repeat' (first | refine rn ?_ | (refine zb ?_; intro _ _) | (refine za ?_; intro _ _) | (refine zs ?_; intro _ _))
    exact TQ_ret1 Tryz.results108 (RV.tmp rfl) (fun w' hs => RetV.yes (fun h => by unfold In at h; omega) hs.below)
  · refine TL_guard_yes rfl rfl rfl ?_
    refine r1 ?_
    refine TL_guard_yes rfl rfl rfl ?_
    refine TL_load_el1 (i := 0) (o := 0) rfl rfl (fun w h => h.sl h2) rfl rfl ?_
    repeat' (first | refine rn ?_ | (refine zb ?_; intro _ _) | (refine za ?_; intro _ _) | (refine zs ?_; intro _ _))
    refine TQ_ret1 Tryz.results108 (RV.tmp rfl) (fun w' hs => ⟨?_, hs.below⟩)
    rw [decide_eq_decide.2]; unfold In; omega

/-- hour.in -/
theorem c67 (lo hi : Int) (l : List Int) (ao : Option Addr) (c : Nat) (hn : Small l.length) (w : World) (ha : Sl w 1 encI ao l) :
    Calls Tryz.prog 67 #[.int .i64 lo, .int .i64 hi, .slice ao l.length c] w (RetV w (.bool (decide (∀ x ∈ l, In x lo hi)))) := by
  refine enter (args := [.int .i64 lo, .int .i64 hi, .slice ao l.length c]) Tryz.func67 rfl Tryz.ntmps67 rfl (SH.refl _) ?_
  repeat' (first | refine rn ?_ | (refine zb ?_; intro _ _) | (refine za ?_; intro _ _) | (refine zs ?_; intro _ _))
  rename_i b3 _ b4 _
  refine TL_callV rfl rfl rfl (fun w h => c75 (fun x => decide (¬ In x lo hi)) 108 [.pointer (some ⟨b3, 0, none⟩), .pointer (some ⟨b4, 0, none⟩)] l ao c hn w (h.sl ha) (fun x _ w' hb => c108 x lo hi b3 b4 w' (Sl.of_blk (h.ext hb) mm (fun _ _ => rfl) ⟨[], rfl⟩) (Sl.of_blk (h.ext hb) mm (fun _ _ => rfl) ⟨[], rfl⟩))) ?_
  repeat' (first | refine rn ?_ | (refine zb ?_; intro _ _) | (refine za ?_; intro _ _) | (refine zs ?_; intro _ _))
  refine TQ_ret1 Tryz.results67 (RV.tmp rfl) (fun w' hs => ⟨?_, hs.below⟩)
  have : (!l.any fun x => decide (¬ In x lo hi)) = decide (∀ x ∈ l, In x lo hi) := by
    rw [Bool.eq_iff_iff]; simp
  rw [this]
/-- hour.proper -/
theorem c111 (s : Sp) (lo hi : Int) (w : World) : Calls Tryz.prog 111 #[.agg (encSp s).toArray, .int .i64 lo, .int .i64 hi] w (RetV w (.bool (decide (Ord s lo hi)))) := by
  refine enter (args := [.agg (encSp s).toArray, .int .i64 lo, .int .i64 hi]) Tryz.func111 rfl Tryz.ntmps111 rfl (SH.refl _) ?_
  repeat' (first | refine rn ?_ | (refine zb ?_; intro _ _) | (refine za ?_; intro _ _) | (refine zs ?_; intro _ _))
  refine TL_gsplit_dec rfl rfl (fun g1 => ?_) (fun g1 => ?_)
  · repeat' (first | refine rn ?_ | (refine zb ?_; intro _ _) | (refine za ?_; intro _ _) | (refine zs ?_; intro _ _))
    refine TL_callV rfl rfl rfl (fun w h => c67 lo hi [s.1, s.2] _ 2 (by simp [Small]) w (Sl.of_blk h mm (fun y _ => rfl) ⟨[], rfl⟩)) ?_
    repeat' (first | refine rn ?_ | (refine zb ?_; intro _ _) | (refine za ?_; intro _ _) | (refine zs ?_; intro _ _))
    refine TQ_ret1 Tryz.results111 (RV.tmp rfl) (fun w' hs => ⟨?_, hs.below⟩)
    have : (∀ y ∈ [s.1, s.2], In y lo hi) ↔ Ord s lo hi := by
      simp [In, Ord]; omega
    rw [decide_eq_decide.2 this]
  · repeat' (first | refine rn ?_ | (refine zb ?_; intro _ _) | (refine za ?_; intro _ _) | (refine zs ?_; intro _ _))
    exact TQ_ret1 Tryz.results111 (RV.tmp rfl) (fun w' hs => RetV.no (fun h => g1 h.2.1) hs.below)
theorem c69 (s : Sp) (w : World) : Calls Tryz.prog 69 #[.agg (encSp s).toArray] w (RetV w (.bool (decide (Ord s (-100000) 100000)))) := by
  refine enter (args := [.agg (encSp s).toArray]) Tryz.func69 rfl Tryz.ntmps69 rfl (SH.refl _) ?_
  repeat' (first | refine rn ?_ | (refine zb ?_; intro _ _) | (refine za ?_; intro _ _) | (refine zs ?_; intro _ _))
  refine TL_callV rfl rfl rfl (fun w h => c111 s _ _ w) ?_
  repeat' (first | refine rn ?_ | (refine zb ?_; intro _ _) | (refine za ?_; intro _ _) | (refine zs ?_; intro _ _))
  exact TQ_ret1 Tryz.results69 (RV.tmp rfl) (fun w' hs => ⟨rfl, hs.below⟩)
def OkSt (s : St) : Prop := Ord s.1 (-100000) 100000 ∧ Ord s.2 0 10000
instance (s : St) : Decidable (OkSt s) := inferInstanceAs (Decidable (_ ∧ _))
theorem c115 (s : St) (w : World) : Calls Tryz.prog 115 #[.agg (encSt s).toArray] w (RetV w (.bool (decide (OkSt s)))) := by
  refine enter (args := [.agg (encSt s).toArray]) Tryz.func115 rfl Tryz.ntmps115 rfl (SH.refl _) ?_
  repeat' (first | refine rn ?_ | (refine zb ?_; intro _ _) | (refine za ?_; intro _ _) | (refine zs ?_; intro _ _))
  refine TL_callV rfl rfl rfl (fun w h => c69 s.1 w) ?_
  repeat' (first | refine rn ?_ | (refine zb ?_; intro _ _) | (refine za ?_; intro _ _) | (refine zs ?_; intro _ _))
  refine TL_gsplit_dec rfl rfl (fun g1 => ?_) (fun g1 => ?_)
  · repeat' (first | refine rn ?_ | (refine zb ?_; intro _ _) | (refine za ?_; intro _ _) | (refine zs ?_; intro _ _))
    refine TL_callV rfl rfl rfl (fun w h => c111 s.2 _ _ w) ?_
    repeat' (first | refine rn ?_ | (refine zb ?_; intro _ _) | (refine za ?_; intro _ _) | (refine zs ?_; intro _ _))
    refine TQ_ret1 Tryz.results115 (RV.tmp rfl) (fun w' hs => ⟨?_, hs.below⟩)
    have : Ord s.2 0 10000 ↔ OkSt s := ⟨fun h => ⟨g1, h⟩, fun h => h.2⟩
    rw [decide_eq_decide.2 this]
  · repeat' (first | refine rn ?_ | (refine zb ?_; intro _ _) | (refine za ?_; intro _ _) | (refine zs ?_; intro _ _))
    exact TQ_ret1 Tryz.results115 (RV.tmp rfl) (fun w' hs => RetV.no (fun h => g1 h.1) hs.below)
def srtB : List Sp → Bool
  | a :: b :: l => decide (a.1 ≤ b.1 ∧ a.2 ≤ b.2) && srtB (b :: l)
  | _ => true
theorem srtB_iff : ∀ l : List Sp, srtB l = true ↔ ∀ (i : Nat) a b, l[i]? = some a → l[i + 1]? = some b → a.1 ≤ b.1 ∧ a.2 ≤ b.2 := by
  intro l
  induction l with
  | nil => simp [srtB]
  | cons a l ih =>
    cases l with
    | nil => simp [srtB]
    | cons b l =>
      simp only [srtB, Bool.and_eq_true, decide_eq_true_eq, ih]
      constructor
      · rintro ⟨h1, h2⟩ i x y hx hy
        cases i with
        | zero => simp at hx hy; subst hx hy; exact h1
        | succ i => exact h2 i x y (by simpa using hx) (by simpa using hy)
      · intro h
        exact ⟨h 0 a b rfl rfl, fun i x y hx hy => h (i + 1) x y (by simpa using hx) (by simpa using hy)⟩
def OkCk (k : Ck) : Prop := k.marks.length ≤ 24 ∧ (∀ s ∈ k.marks, Ord s (-100000) 100000) ∧ k.stars.length ≤ 12 ∧ (∀ s ∈ k.stars, OkSt s) ∧ Ord k.hand 0 60000 ∧ Ord k.sinks 1000 100000 ∧ srtB k.marks = true
instance (k : Ck) : Decidable (OkCk k) := inferInstanceAs (Decidable (_ ∧ _))
def chkC (k : Ck) : Int := if OkCk k then 0 else 30
theorem chkC_no {k : Ck} (h : ¬ OkCk k) : chkC k = 30 := if_neg h
theorem chkC_ok {k : Ck} (h : OkCk k) : chkC k = 0 := if_pos h
theorem all_dec {α : Type} (p : α → Prop) [DecidablePred p] (l : List α) : (l.all fun x => decide (p x)) = decide (∀ x ∈ l, p x) := by
  rw [Bool.eq_iff_iff]; simp
theorem c79 (k : Ck) (w : World) (hk : CkAt w k) : Calls Tryz.prog 79 #[.agg (encCk k).toArray] w (RetV w (.int .i64 (chkC k))) := by
  have hml := hk.ml
  have hsl := hk.sl
  unfold Small at hml hsl
  refine enter (args := [.agg (encCk k).toArray]) Tryz.func79 rfl Tryz.ntmps79 rfl (SH.refl _) ?_
  repeat' (first | refine rn ?_ | (refine zb ?_; intro _ _) | (refine za ?_; intro _ _) | (refine zs ?_; intro _ _))
  rename_i b1 _
  refine TL_gsplit_dec rfl rfl (fun g1 => ?_) (fun g1 => ?_)
  · repeat' (first | refine rn ?_ | (refine zb ?_; intro _ _) | (refine za ?_; intro _ _) | (refine zs ?_; intro _ _))
    exact TQ_ret1 Tryz.results79 (RV.tmp rfl) (fun w' hs => ⟨by rw [chkC_no (fun h => by have := h.1; omega)], hs.below⟩)
  repeat' (first | refine rn ?_ | (refine zb ?_; intro _ _) | (refine za ?_; intro _ _) | (refine zs ?_; intro _ _))
  refine TL_callV rfl rfl rfl (fun w h => c116 (fun s => decide (Ord s (-100000) 100000)) 69 [] k.marks k.mao k.mc hk.ml w (h.sl hk.m) (fun x _ w' _ => c69 x w')) ?_
  rw [all_dec]
  repeat' (first | refine rn ?_ | (refine zb ?_; intro _ _) | (refine za ?_; intro _ _) | (refine zs ?_; intro _ _))
  refine TL_gsplit_dec rfl rfl (fun g2 => ?_) (fun g2 => ?_)
  · repeat' (first | refine rn ?_ | (refine zb ?_; intro _ _) | (refine za ?_; intro _ _) | (refine zs ?_; intro _ _))
    exact TQ_ret1 Tryz.results79 (RV.tmp rfl) (fun w' hs => ⟨by rw [chkC_no (fun h => g2 h.2.1)], hs.below⟩)
  repeat' (first | refine rn ?_ | (refine zb ?_; intro _ _) | (refine za ?_; intro _ _) | (refine zs ?_; intro _ _))
  refine TL_gsplit_dec rfl rfl (fun g3 => ?_) (fun g3 => ?_)
  · repeat' (first | refine rn ?_ | (refine zb ?_; intro _ _) | (refine za ?_; intro _ _) | (refine zs ?_; intro _ _))
    exact TQ_ret1 Tryz.results79 (RV.tmp rfl) (fun w' hs => ⟨by rw [chkC_no (fun h => by have := h.2.2.1; omega)], hs.below⟩)
  repeat' (first | refine rn ?_ | (refine zb ?_; intro _ _) | (refine za ?_; intro _ _) | (refine zs ?_; intro _ _))
  refine TL_callV rfl rfl rfl (fun w h => c117 (fun s => decide (OkSt s)) 115 [] k.stars k.sao k.sc hk.sl w (h.sl hk.s) (fun x _ w' _ => c115 x w')) ?_
  rw [all_dec]
  repeat' (first | refine rn ?_ | (refine zb ?_; intro _ _) | (refine za ?_; intro _ _) | (refine zs ?_; intro _ _))
  refine TL_gsplit_dec rfl rfl (fun g4 => ?_) (fun g4 => ?_)
  · repeat' (first | refine rn ?_ | (refine zb ?_; intro _ _) | (refine za ?_; intro _ _) | (refine zs ?_; intro _ _))
    exact TQ_ret1 Tryz.results79 (RV.tmp rfl) (fun w' hs => ⟨by rw [chkC_no (fun h => g4 h.2.2.2.1)], hs.below⟩)
  repeat' (first | refine rn ?_ | (refine zb ?_; intro _ _) | (refine za ?_; intro _ _) | (refine zs ?_; intro _ _))
  refine TL_callV rfl rfl rfl (fun w h => c111 k.hand _ _ w) ?_
  repeat' (first | refine rn ?_ | (refine zb ?_; intro _ _) | (refine za ?_; intro _ _) | (refine zs ?_; intro _ _))
  refine TL_gsplit_dec rfl rfl (fun g5 => ?_) (fun g5 => ?_)
  · repeat' (first | refine rn ?_ | (refine zb ?_; intro _ _) | (refine za ?_; intro _ _) | (refine zs ?_; intro _ _))
    exact TQ_ret1 Tryz.results79 (RV.tmp rfl) (fun w' hs => ⟨by rw [chkC_no (fun h => g5 h.2.2.2.2.1)], hs.below⟩)
  repeat' (first | refine rn ?_ | (refine zb ?_; intro _ _) | (refine za ?_; intro _ _) | (refine zs ?_; intro _ _))
  refine TL_callV rfl rfl rfl (fun w h => c111 k.sinks _ _ w) ?_
  repeat' (first | refine rn ?_ | (refine zb ?_; intro _ _) | (refine za ?_; intro _ _) | (refine zs ?_; intro _ _))
  refine TC_cond_dec rfl (fun g6 => ?_) (fun g6 => ?_)
  · repeat' (first | refine rn ?_ | (refine zb ?_; intro _ _) | (refine za ?_; intro _ _) | (refine zs ?_; intro _ _))
    exact TQ_ret1 Tryz.results79 (RV.tmp rfl) (fun w' hs => ⟨by rw [chkC_no (fun h => g6 h.2.2.2.2.2.1)], hs.below⟩)
  repeat' (first | refine rn ?_ | (refine zb ?_; intro _ _) | (refine za ?_; intro _ _) | (refine zs ?_; intro _ _))
  have hm : Ord k.sinks 1000 100000 := Classical.not_not.1 g6
  refine TC_loop (σ := Nat) (fun i => 1 ≤ i ∧ (i ≤ k.marks.length ∨ i = 1) ∧ ∀ (j : Nat) a b, j + 1 < i → k.marks[j]? = some a → k.marks[j + 1]? = some b → a.1 ≤ b.1 ∧ a.2 ≤ b.2) (fun i => [(1, .pointer (some ⟨b1, 0, none⟩)), (4, .int .i64 i)]) (fun i => [(b1, .cells (encCk k) 27)]) (fun i => k.marks.length - i) 1 ⟨Nat.le_refl _, .inr rfl, fun j a b h => by omega⟩ sb (fun w h => h) (fun i hi => ?_)
  repeat' (first | refine rn ?_ | (refine zb ?_; intro _ _) | (refine za ?_; intro _ _) | (refine zs ?_; intro _ _))
  refine TC_cond_dec rfl (fun h1 => ?_) (fun h1 => ?_)
  · have hlt : i < k.marks.length := by omega
    obtain ⟨m, rfl⟩ : ∃ m, i = m + 1 := ⟨i - 1, by omega⟩
    obtain ⟨x, hx⟩ : ∃ x, k.marks[m + 1]? = some x := ⟨_, List.getElem?_eq_getElem hlt⟩
    obtain ⟨y, hy⟩ : ∃ y, k.marks[m]? = some y := ⟨_, List.getElem?_eq_getElem (by omega)⟩
    have hne : k.marks ≠ [] := by intro h; rw [h] at hlt; simp at hlt
    repeat' (first | refine rn ?_ | (refine zb ?_; intro _ _) | (refine za ?_; intro _ _) | (refine zs ?_; intro _ _))
    by_cases q1 : x.1 < y.1
    · skip
      apply TC_draw 30; kernel_rfl; exact Tryz.mixed
      · iterate 3 (refine' pv ?_; rotate_left)
        (refine' PG.val rfl rfl (by intro _X; refine TL_index (m + 1) rfl rfl rfl (fun w h => h.sl hk.m) rfl hlt (Nat.le_refl _) ?_; exact qe) ?_; rotate_left)
        (refine' PG.val rfl rfl (by intro _X; refine TL_fieldAddr_el rfl rfl (fun w h => h.sl hk.m) hne ?_; exact qe) ?_; rotate_left)
        (refine' PG.val rfl rfl (by intro _X; refine TL_load_el1 (u := x) rfl rfl (fun w h => h.sl hk.m) hx rfl ?_; exact qe) ?_; rotate_left)
        iterate 4 (refine' pv ?_; rotate_left)
        (refine' PG.val rfl rfl (by intro _X; refine TL_index m rfl rfl rfl (fun w h => h.sl hk.m) (by omega) (by omega) (Nat.le_refl _) ?_; exact qe) ?_; rotate_left)
        (refine' PG.val rfl rfl (by intro _X; refine TL_fieldAddr_el rfl rfl (fun w h => h.sl hk.m) hne ?_; exact qe) ?_; rotate_left)
        (refine' PG.val rfl rfl (by intro _X; refine TL_load_el1 (u := y) rfl rfl (fun w h => h.sl hk.m) hy rfl ?_; exact qe) ?_; rotate_left)
        (refine' PG.val rfl rfl (by intro _X; refine TL_lss_t rfl rfl rfl q1 ?_; exact qe) ?_; rotate_left)
        iterate 16 (refine' pv ?_; rotate_left)
        exact PG.nil
      change TL _ _ _ _ _ _ _ _ _ _ _
      repeat' (first | refine rn ?_ | (refine zb ?_; intro _ _) | (refine za ?_; intro _ _) | (refine zs ?_; intro _ _))
      exact TQ_ret1 Tryz.results79 (RV.tmp rfl) (fun w' hs => ⟨by rw [chkC_no (fun h => by have := (srtB_iff _).1 h.2.2.2.2.2.2 m y x hy hx; omega)], hs.below⟩)
    · by_cases q2 : x.2 < y.2
      · skip
        apply TC_draw 30; kernel_rfl; exact Tryz.mixed
        · iterate 3 (refine' pv ?_; rotate_left)
          (refine' PG.val rfl rfl (by intro _X; refine TL_index (m + 1) rfl rfl rfl (fun w h => h.sl hk.m) rfl hlt (Nat.le_refl _) ?_; exact qe) ?_; rotate_left)
          (refine' PG.val rfl rfl (by intro _X; refine TL_fieldAddr_el rfl rfl (fun w h => h.sl hk.m) hne ?_; exact qe) ?_; rotate_left)
          (refine' PG.val rfl rfl (by intro _X; refine TL_load_el1 (u := x) rfl rfl (fun w h => h.sl hk.m) hx rfl ?_; exact qe) ?_; rotate_left)
          iterate 4 (refine' pv ?_; rotate_left)
          (refine' PG.val rfl rfl (by intro _X; refine TL_index m rfl rfl rfl (fun w h => h.sl hk.m) (by omega) (by omega) (Nat.le_refl _) ?_; exact qe) ?_; rotate_left)
          (refine' PG.val rfl rfl (by intro _X; refine TL_fieldAddr_el rfl rfl (fun w h => h.sl hk.m) hne ?_; exact qe) ?_; rotate_left)
          (refine' PG.val rfl rfl (by intro _X; refine TL_load_el1 (u := y) rfl rfl (fun w h => h.sl hk.m) hy rfl ?_; exact qe) ?_; rotate_left)
          (refine' PG.val rfl rfl (by intro _X; refine TL_lss_f rfl rfl rfl q1 ?_; exact qe) ?_; rotate_left)
          (refine' pv ?_; rotate_left)
          iterate 3 (refine' pg ?_; rotate_left)
          (refine' PG.val rfl rfl (by intro _X; (refine TL_guard_yes rfl rfl rfl ?_); refine TL_index (m + 1) rfl rfl rfl (fun w h => h.sl hk.m) rfl hlt (Nat.le_refl _) ?_; exact qe) ?_; rotate_left)
          (refine' PG.val rfl rfl (by intro _X; (refine TL_guard_yes rfl rfl rfl ?_); refine TL_fieldAddr_el rfl rfl (fun w h => h.sl hk.m) hne ?_; exact qe) ?_; rotate_left)
          (refine' PG.val rfl rfl (by intro _X; (refine TL_guard_yes rfl rfl rfl ?_); refine TL_load_el1 (u := x) rfl rfl (fun w h => h.sl hk.m) hx rfl ?_; exact qe) ?_; rotate_left)
          iterate 4 (refine' pg ?_; rotate_left)
          (refine' PG.val rfl rfl (by intro _X; (refine TL_guard_yes rfl rfl rfl ?_); refine TL_index m rfl rfl rfl (fun w h => h.sl hk.m) (by omega) (by omega) (Nat.le_refl _) ?_; exact qe) ?_; rotate_left)
          (refine' PG.val rfl rfl (by intro _X; (refine TL_guard_yes rfl rfl rfl ?_); refine TL_fieldAddr_el rfl rfl (fun w h => h.sl hk.m) hne ?_; exact qe) ?_; rotate_left)
          (refine' PG.val rfl rfl (by intro _X; (refine TL_guard_yes rfl rfl rfl ?_); refine TL_load_el1 (u := y) rfl rfl (fun w h => h.sl hk.m) hy rfl ?_; exact qe) ?_; rotate_left)
          (refine' PG.val rfl rfl (by intro _X; (refine TL_guard_yes rfl rfl rfl ?_); refine TL_lss_t rfl rfl rfl q2 ?_; exact qe) ?_; rotate_left)
          (refine' pv ?_; rotate_left)
          exact PG.nil
        change TL _ _ _ _ _ _ _ _ _ _ _
        repeat' (first | refine rn ?_ | (refine zb ?_; intro _ _) | (refine za ?_; intro _ _) | (refine zs ?_; intro _ _))
        exact TQ_ret1 Tryz.results79 (RV.tmp rfl) (fun w' hs => ⟨by rw [chkC_no (fun h => by have := (srtB_iff _).1 h.2.2.2.2.2.2 m y x hy hx; omega)], hs.below⟩)
      · skip
        apply TC_draw 30; kernel_rfl; exact Tryz.mixed
        · iterate 3 (refine' pv ?_; rotate_left)
          (refine' PG.val rfl rfl (by intro _X; refine TL_index (m + 1) rfl rfl rfl (fun w h => h.sl hk.m) rfl hlt (Nat.le_refl _) ?_; exact qe) ?_; rotate_left)
          (refine' PG.val rfl rfl (by intro _X; refine TL_fieldAddr_el rfl rfl (fun w h => h.sl hk.m) hne ?_; exact qe) ?_; rotate_left)
          (refine' PG.val rfl rfl (by intro _X; refine TL_load_el1 (u := x) rfl rfl (fun w h => h.sl hk.m) hx rfl ?_; exact qe) ?_; rotate_left)
          iterate 4 (refine' pv ?_; rotate_left)
          (refine' PG.val rfl rfl (by intro _X; refine TL_index m rfl rfl rfl (fun w h => h.sl hk.m) (by omega) (by omega) (Nat.le_refl _) ?_; exact qe) ?_; rotate_left)
          (refine' PG.val rfl rfl (by intro _X; refine TL_fieldAddr_el rfl rfl (fun w h => h.sl hk.m) hne ?_; exact qe) ?_; rotate_left)
          (refine' PG.val rfl rfl (by intro _X; refine TL_load_el1 (u := y) rfl rfl (fun w h => h.sl hk.m) hy rfl ?_; exact qe) ?_; rotate_left)
          (refine' PG.val rfl rfl (by intro _X; refine TL_lss_f rfl rfl rfl q1 ?_; exact qe) ?_; rotate_left)
          (refine' pv ?_; rotate_left)
          iterate 3 (refine' pg ?_; rotate_left)
          (refine' PG.val rfl rfl (by intro _X; (refine TL_guard_yes rfl rfl rfl ?_); refine TL_index (m + 1) rfl rfl rfl (fun w h => h.sl hk.m) rfl hlt (Nat.le_refl _) ?_; exact qe) ?_; rotate_left)
          (refine' PG.val rfl rfl (by intro _X; (refine TL_guard_yes rfl rfl rfl ?_); refine TL_fieldAddr_el rfl rfl (fun w h => h.sl hk.m) hne ?_; exact qe) ?_; rotate_left)
          (refine' PG.val rfl rfl (by intro _X; (refine TL_guard_yes rfl rfl rfl ?_); refine TL_load_el1 (u := x) rfl rfl (fun w h => h.sl hk.m) hx rfl ?_; exact qe) ?_; rotate_left)
          iterate 4 (refine' pg ?_; rotate_left)
          (refine' PG.val rfl rfl (by intro _X; (refine TL_guard_yes rfl rfl rfl ?_); refine TL_index m rfl rfl rfl (fun w h => h.sl hk.m) (by omega) (by omega) (Nat.le_refl _) ?_; exact qe) ?_; rotate_left)
          (refine' PG.val rfl rfl (by intro _X; (refine TL_guard_yes rfl rfl rfl ?_); refine TL_fieldAddr_el rfl rfl (fun w h => h.sl hk.m) hne ?_; exact qe) ?_; rotate_left)
          (refine' PG.val rfl rfl (by intro _X; (refine TL_guard_yes rfl rfl rfl ?_); refine TL_load_el1 (u := y) rfl rfl (fun w h => h.sl hk.m) hy rfl ?_; exact qe) ?_; rotate_left)
          (refine' PG.val rfl rfl (by intro _X; (refine TL_guard_yes rfl rfl rfl ?_); refine TL_lss_f rfl rfl rfl q2 ?_; exact qe) ?_; rotate_left)
          (refine' pv ?_; rotate_left)
          exact PG.nil
        change TL _ _ _ _ _ _ _ _ _ _ _
        repeat' (first | refine rn ?_ | (refine zb ?_; intro _ _) | (refine za ?_; intro _ _) | (refine zs ?_; intro _ _))
        refine TQ_round (m + 2) ⟨by omega, .inl (by omega), fun j a b hj ha hb => ?_⟩ (by omega) sb (fun w h => h)
        rcases Nat.lt_or_ge (j + 1) (m + 1) with h | h
        · exact hi.2.2 j a b h ha hb
        · have : j = m := by omega
          subst this; rw [hx] at hb; rw [hy] at ha; cases ha; cases hb; omega
  · repeat' (first | refine rn ?_ | (refine zb ?_; intro _ _) | (refine za ?_; intro _ _) | (refine zs ?_; intro _ _))
    exact TQ_ret1 Tryz.results79 (RV.tmp rfl) (fun w' hs => ⟨by rw [chkC_ok ⟨by omega, Classical.not_not.1 g2, by omega, Classical.not_not.1 g4, Classical.not_not.1 g5, hm, (srtB_iff _).2 (fun j a b ha hb => by
      have := (List.getElem?_eq_some_iff.1 hb).1
      exact hi.2.2 j a b (by omega) ha hb)⟩], hs.below⟩)
end Go.Proofs.YtkpkebpofpcmaaaGreatDoor
