/- Walks: Grades, of both. -/
import Derived.Test.YtccgplomnjpniaaE6
namespace Go.Proofs.Ytccgplomnjpniaa
open Go Go.Eng Go.RowKit Go.Proofs
set_option maxHeartbeats 1000000
set_option maxRecDepth 10000
attribute [local irreducible] TL TC TQ

def gradesR (f : Ft) (d : Int) : Int × Int × Int := if ¬ OkFt f then (0, 0, 80) else if ¬ In d 0 30 then (0, 0, 2) else (gLo f d, gHi f d, 0)
def gradesV (q : Int × Int × Int) : Value := .tuple #[.int .u8 q.1, .int .u8 q.2.1, .int .i64 q.2.2]
theorem dayB {f : Ft} (hf : OkFt f) {d : Int} (hd : In d 0 30) : DayB f d := by
  obtain ⟨h1, h2, _⟩ := hf
  simp only [Ord, In] at *
  have e1 := Int.mul_nonneg hd.1 h2.1
  have e2 := Int.mul_nonneg hd.1 (Int.le_trans h2.1 h2.2.1)
  have e3 : d * f.dry.1 ≤ 30 * 100 := Int.mul_le_mul hd.2 (Int.le_trans h2.2.1 h2.2.2) h2.1 (by omega)
  have e4 : d * f.dry.2 ≤ 30 * 100 := Int.mul_le_mul hd.2 h2.2.2 (Int.le_trans h2.1 h2.2.1) (by omega)
  exact ⟨⟨e1, by omega⟩, ⟨e2, by omega⟩, by omega, by omega⟩
theorem gradeR_range (f : Ft) (m : Int) : gradeR f m = 0 ∨ gradeR f m = 1 ∨ gradeR f m = 2 := by
  unfold gradeR; split
  · exact .inl rfl
  · split
    · exact .inr (.inl rfl)
    · exact .inr (.inr rfl)
theorem wrap_grade (f : Ft) (m : Int) : IntKind.u8.wrap (gradeR f m) = gradeR f m := by
  rcases gradeR_range f m with h | h | h <;> rw [h] <;> rfl

theorem c22 (f : Ft) (d : Int) (w : World) : Calls Try.prog 22 #[.agg (encFt f).toArray, .int .i64 d] w (RetV w (gradesV (gradesR f d))) := by
  refine enter (args := [.agg (encFt f).toArray, .int .i64 d]) Try.func22 rfl Try.ntmps22 rfl (SH.refl _) ?_
  repeat' (first | refine rn ?_ | (apply TL_box; exact rfl; exact rfl; exact rfl; intro _ _) | (apply TL_alloc; exact rfl; intro _ _) | (apply TL_buildSlice; exact rfl; exact rfl; exact rfl; exact rfl; exact rfl; intro _ _))
  refine TL_callV rfl rfl rfl (fun w _ => c56 f w) ?_
  repeat' (first | refine rn ?_ | (apply TL_box; exact rfl; exact rfl; exact rfl; intro _ _) | (apply TL_alloc; exact rfl; intro _ _) | (apply TL_buildSlice; exact rfl; exact rfl; exact rfl; exact rfl; exact rfl; intro _ _))
  refine TC_cond_dec rfl (fun g1 => ?_) (fun g1 => ?_)
  · repeat' (first | refine rn ?_ | (apply TL_box; exact rfl; exact rfl; exact rfl; intro _ _) | (apply TL_alloc; exact rfl; intro _ _) | (apply TL_buildSlice; exact rfl; exact rfl; exact rfl; exact rfl; exact rfl; intro _ _))
    have e : gradesR f d = (0, 0, 80) := by unfold gradesR; rw [if_pos g1]
    rw [e]
    exact TQ_ret3 Try.results22 (RV.tmp rfl) (RV.tmp rfl) (RV.tmp rfl) (fun w' hs => ⟨rfl, hs.below⟩)
  repeat' (first | refine rn ?_ | (apply TL_box; exact rfl; exact rfl; exact rfl; intro _ _) | (apply TL_alloc; exact rfl; intro _ _) | (apply TL_buildSlice; exact rfl; exact rfl; exact rfl; exact rfl; exact rfl; intro _ _))
  refine TL_callV rfl rfl rfl (fun w _ => c48 d 0 30 w) ?_
  repeat' (first | refine rn ?_ | (apply TL_box; exact rfl; exact rfl; exact rfl; intro _ _) | (apply TL_alloc; exact rfl; intro _ _) | (apply TL_buildSlice; exact rfl; exact rfl; exact rfl; exact rfl; exact rfl; intro _ _))
  refine TC_cond_dec rfl (fun g2 => ?_) (fun g2 => ?_)
  · repeat' (first | refine rn ?_ | (apply TL_box; exact rfl; exact rfl; exact rfl; intro _ _) | (apply TL_alloc; exact rfl; intro _ _) | (apply TL_buildSlice; exact rfl; exact rfl; exact rfl; exact rfl; exact rfl; intro _ _))
    have e : gradesR f d = (0, 0, 2) := by unfold gradesR; rw [if_neg g1, if_pos g2]
    rw [e]
    exact TQ_ret3 Try.results22 (RV.tmp rfl) (RV.tmp rfl) (RV.tmp rfl) (fun w' hs => ⟨rfl, hs.below⟩)
  have e : gradesR f d = (gLo f d, gHi f d, 0) := by unfold gradesR; rw [if_neg g1, if_neg g2]
  rw [e]
  have hb := dayB (Classical.not_not.1 g1) (Classical.not_not.1 g2)
  repeat' (first | refine rn ?_ | (apply TL_box; exact rfl; exact rfl; exact rfl; intro _ _) | (apply TL_alloc; exact rfl; intro _ _) | (apply TL_buildSlice; exact rfl; exact rfl; exact rfl; exact rfl; exact rfl; intro _ _))
  refine TL_callV rfl rfl rfl (fun w _ => c57 f d hb w) ?_
  repeat' (first | refine rn ?_ | (apply TL_box; exact rfl; exact rfl; exact rfl; intro _ _) | (apply TL_alloc; exact rfl; intro _ _) | (apply TL_buildSlice; exact rfl; exact rfl; exact rfl; exact rfl; exact rfl; intro _ _))
  exact TQ_ret3 Try.results22 (RV.tmp rfl) (RV.tmp rfl) (RV.tmp rfl) (fun w' hs => ⟨rfl, hs.below⟩)

theorem c21 (f : Ft) (d : Int) (w : World) : Calls Try.prog 21 #[.agg (encFt f).toArray, .int .i64 d] w (RetV w (gradesV (gradesR f d))) := by
  refine enter (args := [.agg (encFt f).toArray, .int .i64 d]) Try.func21 rfl Try.ntmps21 rfl (SH.refl _) ?_
  repeat' (first | refine rn ?_ | (apply TL_box; exact rfl; exact rfl; exact rfl; intro _ _) | (apply TL_alloc; exact rfl; intro _ _) | (apply TL_buildSlice; exact rfl; exact rfl; exact rfl; exact rfl; exact rfl; intro _ _))
  refine TL_callV rfl rfl rfl (fun w _ => c54 f w) ?_
  repeat' (first | refine rn ?_ | (apply TL_box; exact rfl; exact rfl; exact rfl; intro _ _) | (apply TL_alloc; exact rfl; intro _ _) | (apply TL_buildSlice; exact rfl; exact rfl; exact rfl; exact rfl; exact rfl; intro _ _))
  refine TC_cond_dec rfl (fun g1 => ?_) (fun g1 => ?_)
  · repeat' (first | refine rn ?_ | (apply TL_box; exact rfl; exact rfl; exact rfl; intro _ _) | (apply TL_alloc; exact rfl; intro _ _) | (apply TL_buildSlice; exact rfl; exact rfl; exact rfl; exact rfl; exact rfl; intro _ _))
    have e : gradesR f d = (0, 0, 80) := by unfold gradesR; rw [if_pos g1]
    rw [e]
    exact TQ_ret3 Try.results21 (RV.tmp rfl) (RV.tmp rfl) (RV.tmp rfl) (fun w' hs => ⟨rfl, hs.below⟩)
  repeat' (first | refine rn ?_ | (apply TL_box; exact rfl; exact rfl; exact rfl; intro _ _) | (apply TL_alloc; exact rfl; intro _ _) | (apply TL_buildSlice; exact rfl; exact rfl; exact rfl; exact rfl; exact rfl; intro _ _))
  refine TL_callV rfl rfl rfl (fun w h => c46 0 30 [d] _ 1 (by simp) w (Sl.of_blk h mm (fun y _ => rfl) ⟨[], rfl⟩)) ?_
  repeat' (first | refine rn ?_ | (apply TL_box; exact rfl; exact rfl; exact rfl; intro _ _) | (apply TL_alloc; exact rfl; intro _ _) | (apply TL_buildSlice; exact rfl; exact rfl; exact rfl; exact rfl; exact rfl; intro _ _))
  have hin : (∀ y ∈ [d], In y 0 30) ↔ In d 0 30 := by simp
  refine TC_cond_dec rfl (fun g2 => ?_) (fun g2 => ?_)
  · rw [hin] at g2
    repeat' (first | refine rn ?_ | (apply TL_box; exact rfl; exact rfl; exact rfl; intro _ _) | (apply TL_alloc; exact rfl; intro _ _) | (apply TL_buildSlice; exact rfl; exact rfl; exact rfl; exact rfl; exact rfl; intro _ _))
    have e : gradesR f d = (0, 0, 2) := by unfold gradesR; rw [if_neg g1, if_pos g2]
    rw [e]
    exact TQ_ret3 Try.results21 (RV.tmp rfl) (RV.tmp rfl) (RV.tmp rfl) (fun w' hs => ⟨rfl, hs.below⟩)
  rw [hin] at g2
  have e : gradesR f d = (gLo f d, gHi f d, 0) := by unfold gradesR; rw [if_neg g1, if_neg g2]
  rw [e]
  have hb := dayB (Classical.not_not.1 g1) (Classical.not_not.1 g2)
  have w1 : IntKind.u8.wrap (gLo f d) = gLo f d := wrap_grade f _
  have w2 : IntKind.u8.wrap (gHi f d) = gHi f d := wrap_grade f _
  repeat' (first | refine rn ?_ | (apply TL_box; exact rfl; exact rfl; exact rfl; intro _ _) | (apply TL_alloc; exact rfl; intro _ _) | (apply TL_buildSlice; exact rfl; exact rfl; exact rfl; exact rfl; exact rfl; intro _ _))
  refine TL_callV rfl rfl rfl (fun w _ => c55 f d hb w) ?_
  repeat' (first | refine rn ?_ | (apply TL_box; exact rfl; exact rfl; exact rfl; intro _ _) | (apply TL_alloc; exact rfl; intro _ _) | (apply TL_buildSlice; exact rfl; exact rfl; exact rfl; exact rfl; exact rfl; intro _ _))
  apply TC_draw 9; kernel_rfl; exact Try.mixed
  · (refine' PG.val rfl rfl (by intro _X; refine TL_indexAddrA 0 rfl rfl rfl rfl (by omega) ?_; exact qe) ?_; rotate_left)
    iterate 2 (refine' pv ?_; rotate_left)
    (refine' PG.val rfl rfl (by intro _X; refine TL_indexAddrA 1 rfl rfl rfl rfl (by omega) ?_; exact qe) ?_; rotate_left)
    iterate 5 (refine' pv ?_; rotate_left)
    exact PG.nil
  change TL _ _ _ _ _ _ _ _ _ _ _
  repeat' (first | refine rn ?_ | (apply TL_box; exact rfl; exact rfl; exact rfl; intro _ _) | (apply TL_alloc; exact rfl; intro _ _) | (apply TL_buildSlice; exact rfl; exact rfl; exact rfl; exact rfl; exact rfl; intro _ _))
  exact TQ_ret3 Try.results21 (RV.tmp rfl) (RV.tmp rfl) (RV.tmp rfl) (fun w' hs => ⟨by rw [w1, w2]; rfl, hs.below⟩)
end Go.Proofs.Ytccgplomnjpniaa
/- Walks: whether cuts are valid, of the reference. -/
namespace Go.Proofs.Ytccgplomnjpniaa
open Go Go.Eng Go.RowKit Go.Proofs
set_option maxHeartbeats 1000000
set_option maxRecDepth 10000
attribute [local irreducible] TL TC TQ

def cutsB (n : Int) : Int → List Int → Bool
  | _, [] => true
  | lo, x :: l => decide (In x lo (n - 1)) && cutsB n (x + 1) l
/-- From what a cut may be on. -/
def nx (l : List Int) : Nat → Int
  | 0 => 0
  | i + 1 => l.getD i 0 + 1
theorem cutsB_iff (n : Int) : ∀ (l : List Int) (lo : Int), cutsB n lo l = true ↔ ∀ (i : Nat) x, l[i]? = some x → In x (if i = 0 then lo else nx l i) (n - 1) := by
  intro l
  induction l with
  | nil => intro lo; simp [cutsB]
  | cons y l ih =>
    intro lo
    simp only [cutsB, Bool.and_eq_true, decide_eq_true_eq, ih]
    constructor
    · rintro ⟨h1, h2⟩ i x hx
      cases i with
      | zero => simp at hx; subst hx; simpa using h1
      | succ i =>
        have := h2 i x (by simpa using hx)
        cases i with
        | zero => simpa [nx] using this
        | succ i => simpa [nx] using this
    · intro h
      refine ⟨by simpa using h 0 y rfl, fun i x hx => ?_⟩
      have := h (i + 1) x (by simpa using hx)
      cases i with
      | zero => simpa [nx] using this
      | succ i => simpa [nx] using this
theorem cutsB_zero (n : Int) (l : List Int) : cutsB n 0 l = true ↔ ∀ (i : Nat) x, l[i]? = some x → In x (nx l i) (n - 1) := by
  rw [cutsB_iff]
  constructor <;> intro h i x hx <;> have := h i x hx <;> cases i <;> simpa [nx] using this
/-- As the reference says it. -/
theorem cutsB_ref (n : Int) (l : List Int) : cutsB n 0 l = true ↔ ∀ (i : Nat) x, l[i]? = some x → In x 0 (n - 1) ∧ ∀ j y, i = j + 1 → l[j]? = some y → y < x := by
  rw [cutsB_zero]
  constructor
  · intro h
    have hpos : ∀ (i : Nat) x, l[i]? = some x → 0 ≤ x := by
      intro i
      induction i with
      | zero => intro x hx; exact (h 0 x hx).1
      | succ i ih =>
        intro x hx
        have h1 := h (i + 1) x hx
        obtain ⟨y, hy⟩ : ∃ y, l[i]? = some y := ⟨_, List.getElem?_eq_getElem (by have := (List.getElem?_eq_some_iff.1 hx).1; omega)⟩
        have h2 := ih y hy
        have h3 := h1.1
        simp only [nx, List.getD_eq_getElem?_getD, hy, Option.getD_some] at h3
        omega
    intro i x hx
    refine ⟨⟨hpos i x hx, (h i x hx).2⟩, fun j y hj hy => ?_⟩
    subst hj
    have h3 := (h (j + 1) x hx).1
    simp only [nx, List.getD_eq_getElem?_getD, hy, Option.getD_some] at h3
    omega
  · intro h i x hx
    obtain ⟨h1, h2⟩ := h i x hx
    cases i with
    | zero => exact h1
    | succ j =>
      obtain ⟨y, hy⟩ : ∃ y, l[j]? = some y := ⟨_, List.getElem?_eq_getElem (by have := (List.getElem?_eq_some_iff.1 hx).1; omega)⟩
      have := h2 j y rfl hy
      refine ⟨?_, h1.2⟩
      simp only [nx, List.getD_eq_getElem?_getD, hy, Option.getD_some]
      omega

theorem c41 (b : Bn) (ao : Option Addr) (c : Nat) (l : List Int) (lo : Option Addr) (lc : Nat) (hl : b.ripe.length ≤ 1000000) (hl2 : l.length ≤ 1000000) (w : World) (ha : Sl w 1 encI lo l) :
    Calls Try.prog 41 #[.agg (encBn b ao c).toArray, .slice lo l.length lc] w (RetV w (.bool (cutsB b.ripe.length 0 l))) := by
  refine enter (args := [.agg (encBn b ao c).toArray, .slice lo l.length lc]) Try.func41 rfl Try.ntmps41 rfl (SH.refl _) ?_
  repeat' (first | refine rn ?_ | (apply TL_box; exact rfl; exact rfl; exact rfl; intro _ _) | (apply TL_alloc; exact rfl; intro _ _) | (apply TL_buildSlice; exact rfl; exact rfl; exact rfl; exact rfl; exact rfl; intro _ _))
  rename_i b2 _
  refine TC_loop (σ := Nat) (fun k => k ≤ l.length ∧ ∀ (i : Nat) x, i < k → l[i]? = some x → In x 0 ((b.ripe.length : Int) - 1) ∧ ∀ j y, i = j + 1 → l[j]? = some y → y < x) (fun k => [(1, .slice lo l.length lc), (2, .pointer (some ⟨b2, 0, none⟩)), (5, .int .i64 k)]) (fun k => [(b2, .cells (encBn b ao c) 46)]) (fun k => l.length - k) 0 ⟨Nat.zero_le _, fun i x h => by omega⟩ sb (fun w h => h) (fun k hk => ?_)
  repeat' (first | refine rn ?_ | (apply TL_box; exact rfl; exact rfl; exact rfl; intro _ _) | (apply TL_alloc; exact rfl; intro _ _) | (apply TL_buildSlice; exact rfl; exact rfl; exact rfl; exact rfl; exact rfl; intro _ _))
  refine TC_cond_dec rfl (fun h1 => ?_) (fun h1 => ?_)
  · have hlt : k < l.length := by omega
    obtain ⟨x, hx⟩ : ∃ x, l[k]? = some x := ⟨_, List.getElem?_eq_getElem hlt⟩
    have no : ∀ (_ : ¬ (In x 0 ((b.ripe.length : Int) - 1) ∧ ∀ j y, k = j + 1 → l[j]? = some y → y < x)), cutsB b.ripe.length 0 l = false := fun h => by
      cases hc : cutsB b.ripe.length 0 l with
      | false => rfl
      | true => exact absurd ((cutsB_ref _ _).1 hc k x hx) h
    have step : (In x 0 ((b.ripe.length : Int) - 1) ∧ ∀ j y, k = j + 1 → l[j]? = some y → y < x) → ∀ (i : Nat) z, i < k + 1 → l[i]? = some z → In z 0 ((b.ripe.length : Int) - 1) ∧ ∀ j y, i = j + 1 → l[j]? = some y → y < z := fun h i z hi hz => by
      rcases Nat.lt_or_ge i k with h' | h'
      · exact hk.2 i z h' hz
      · have : i = k := by omega
        subst this
        rw [hx] at hz; cases hz; exact h
    by_cases g1 : In x 0 ((b.ripe.length : Int) - 1)
    · have c48' := fun w => c48 x 0 ((b.ripe.length : Int) - 1) w
      rw [decide_eq_true g1] at c48'
      cases k with
      | zero =>
        repeat' (first | refine rn ?_ | (apply TL_box; exact rfl; exact rfl; exact rfl; intro _ _) | (apply TL_alloc; exact rfl; intro _ _) | (apply TL_buildSlice; exact rfl; exact rfl; exact rfl; exact rfl; exact rfl; intro _ _))
        apply TC_draw 26; kernel_rfl; exact Try.mixed
        · iterate 2 (refine' pv ?_; rotate_left)
          (refine' PG.val rfl rfl (by intro _X; refine TL_index 0 rfl rfl rfl (fun w h => h.sl ha) rfl hlt (Nat.le_refl _) ?_; exact qe) ?_; rotate_left)
          (refine' PG.val rfl rfl (by intro _X; refine TL_load_el1 (u := x) rfl rfl (fun w h => h.sl ha) hx rfl ?_; exact qe) ?_; rotate_left)
          iterate 4 (refine' pv ?_; rotate_left)
          (refine' PG.val rfl rfl (by intro _X; refine TL_callV rfl rfl rfl (fun w _ => c48' w) ?_; exact qe) ?_; rotate_left)
          iterate 2 (refine' pv ?_; rotate_left)
          (refine' pg ?_; rotate_left)
          (refine' PG.val rfl rfl (by intro _X; (refine TL_guard_yes rfl rfl rfl ?_); refine TL_gtr_f rfl rfl rfl (by omega) ?_; exact qe) ?_; rotate_left)
          (refine' pg ?_; rotate_left)
          iterate 10 (refine' pv ?_; rotate_left)
          (refine' pg ?_; rotate_left)
          (refine' pv ?_; rotate_left)
          exact PG.nil
        change TL _ _ _ _ _ _ _ _ _ _ _
        repeat' (first | refine rn ?_ | (apply TL_box; exact rfl; exact rfl; exact rfl; intro _ _) | (apply TL_alloc; exact rfl; intro _ _) | (apply TL_buildSlice; exact rfl; exact rfl; exact rfl; exact rfl; exact rfl; intro _ _))
        exact TQ_round 1 ⟨hlt, step ⟨g1, fun j y h => by omega⟩⟩ (by omega) sb (fun w h => h)
      | succ j =>
        obtain ⟨y, hy⟩ : ∃ y, l[j]? = some y := ⟨_, List.getElem?_eq_getElem (by omega)⟩
        repeat' (first | refine rn ?_ | (apply TL_box; exact rfl; exact rfl; exact rfl; intro _ _) | (apply TL_alloc; exact rfl; intro _ _) | (apply TL_buildSlice; exact rfl; exact rfl; exact rfl; exact rfl; exact rfl; intro _ _))
        apply TC_draw 26; kernel_rfl; exact Try.mixed
        · iterate 2 (refine' pv ?_; rotate_left)
          (refine' PG.val rfl rfl (by intro _X; refine TL_index (j + 1) rfl rfl rfl (fun w h => h.sl ha) rfl hlt (Nat.le_refl _) ?_; exact qe) ?_; rotate_left)
          (refine' PG.val rfl rfl (by intro _X; refine TL_load_el1 (u := x) rfl rfl (fun w h => h.sl ha) hx rfl ?_; exact qe) ?_; rotate_left)
          iterate 4 (refine' pv ?_; rotate_left)
          (refine' PG.val rfl rfl (by intro _X; refine TL_callV rfl rfl rfl (fun w _ => c48' w) ?_; exact qe) ?_; rotate_left)
          iterate 2 (refine' pv ?_; rotate_left)
          (refine' pg ?_; rotate_left)
          (refine' PG.val rfl rfl (by intro _X; (refine TL_guard_yes rfl rfl rfl ?_); refine TL_gtr_t rfl rfl rfl (by omega) ?_; exact qe) ?_; rotate_left)
          iterate 3 (refine' pg ?_; rotate_left)
          (refine' PG.val rfl rfl (by intro _X; (refine TL_guard_yes rfl rfl rfl ?_); refine TL_index (j + 1) rfl rfl rfl (fun w h => h.sl ha) rfl hlt (Nat.le_refl _) ?_; exact qe) ?_; rotate_left)
          (refine' PG.val rfl rfl (by intro _X; (refine TL_guard_yes rfl rfl rfl ?_); refine TL_load_el1 (u := x) rfl rfl (fun w h => h.sl ha) hx rfl ?_; exact qe) ?_; rotate_left)
          iterate 3 (refine' pg ?_; rotate_left)
          (refine' PG.val rfl rfl (by intro _X; (refine TL_guard_yes rfl rfl rfl ?_); refine TL_index j rfl rfl rfl (fun w h => h.sl ha) (by omega) (by omega) (Nat.le_refl _) ?_; exact qe) ?_; rotate_left)
          (refine' PG.val rfl rfl (by intro _X; (refine TL_guard_yes rfl rfl rfl ?_); refine TL_load_el1 (u := y) rfl rfl (fun w h => h.sl ha) hy rfl ?_; exact qe) ?_; rotate_left)
          iterate 2 (refine' pg ?_; rotate_left)
          (refine' pv ?_; rotate_left)
          exact PG.nil
        change TL _ _ _ _ _ _ _ _ _ _ _
        repeat' (first | refine rn ?_ | (apply TL_box; exact rfl; exact rfl; exact rfl; intro _ _) | (apply TL_alloc; exact rfl; intro _ _) | (apply TL_buildSlice; exact rfl; exact rfl; exact rfl; exact rfl; exact rfl; intro _ _))
        refine TC_cond_dec rfl (fun h2 => ?_) (fun h2 => ?_)
        · repeat' (first | refine rn ?_ | (apply TL_box; exact rfl; exact rfl; exact rfl; intro _ _) | (apply TL_alloc; exact rfl; intro _ _) | (apply TL_buildSlice; exact rfl; exact rfl; exact rfl; exact rfl; exact rfl; intro _ _))
          rw [no (fun h => by have := h.2 j y rfl hy; omega)]
          exact TQ_ret1 Try.results41 (RV.tmp rfl) (fun w' hs => ⟨rfl, hs.below⟩)
        · repeat' (first | refine rn ?_ | (apply TL_box; exact rfl; exact rfl; exact rfl; intro _ _) | (apply TL_alloc; exact rfl; intro _ _) | (apply TL_buildSlice; exact rfl; exact rfl; exact rfl; exact rfl; exact rfl; intro _ _))
          exact TQ_round (j + 1 + 1) ⟨hlt, step ⟨g1, fun i z hi hz => by
            obtain rfl : i = j := by omega
            rw [hy] at hz; cases hz; omega⟩⟩ (by omega) sb (fun w h => h)
    · have c48' := fun w => c48 x 0 ((b.ripe.length : Int) - 1) w
      rw [decide_eq_false g1] at c48'
      rw [no (fun h => g1 h.1)]
      repeat' (first | refine rn ?_ | (apply TL_box; exact rfl; exact rfl; exact rfl; intro _ _) | (apply TL_alloc; exact rfl; intro _ _) | (apply TL_buildSlice; exact rfl; exact rfl; exact rfl; exact rfl; exact rfl; intro _ _))
      apply TC_draw 26; kernel_rfl; exact Try.mixed
      · iterate 2 (refine' pv ?_; rotate_left)
        (refine' PG.val rfl rfl (by intro _X; refine TL_index k rfl rfl rfl (fun w h => h.sl ha) rfl hlt (Nat.le_refl _) ?_; exact qe) ?_; rotate_left)
        (refine' PG.val rfl rfl (by intro _X; refine TL_load_el1 (u := x) rfl rfl (fun w h => h.sl ha) hx rfl ?_; exact qe) ?_; rotate_left)
        iterate 4 (refine' pv ?_; rotate_left)
        (refine' PG.val rfl rfl (by intro _X; refine TL_callV rfl rfl rfl (fun w _ => c48' w) ?_; exact qe) ?_; rotate_left)
        iterate 5 (refine' pv ?_; rotate_left)
        iterate 10 (refine' pv ?_; rotate_left)
        iterate 2 (refine' pv ?_; rotate_left)
        exact PG.nil
      change TL _ _ _ _ _ _ _ _ _ _ _
      repeat' (first | refine rn ?_ | (apply TL_box; exact rfl; exact rfl; exact rfl; intro _ _) | (apply TL_alloc; exact rfl; intro _ _) | (apply TL_buildSlice; exact rfl; exact rfl; exact rfl; exact rfl; exact rfl; intro _ _))
      exact TQ_ret1 Try.results41 (RV.tmp rfl) (fun w' hs => ⟨rfl, hs.below⟩)
  · have hkl : k = l.length := by omega
    subst hkl
    repeat' (first | refine rn ?_ | (apply TL_box; exact rfl; exact rfl; exact rfl; intro _ _) | (apply TL_alloc; exact rfl; intro _ _) | (apply TL_buildSlice; exact rfl; exact rfl; exact rfl; exact rfl; exact rfl; intro _ _))
    rw [(cutsB_ref _ _).2 (fun i x hx => hk.2 i x (List.getElem?_eq_some_iff.1 hx).1 hx)]
    exact TQ_ret1 Try.results41 (RV.tmp rfl) (fun w' hs => ⟨rfl, hs.below⟩)
end Go.Proofs.Ytccgplomnjpniaa
/- Walks: slices.BinarySearch, Min, Max; birds. -/
namespace Go.Proofs.Ytccgplomnjpniaa
open Go Go.Eng Go.RowKit Go.Proofs
set_option maxHeartbeats 1000000
set_option maxRecDepth 10000
attribute [local irreducible] TL TC TQ

theorem c103 (x : Int) (w : World) : Calls Try.prog 103 #[.int .i64 x] w (RetV w (.bool false)) := by
  refine enter (args := [.int .i64 x]) Try.func103 rfl Try.ntmps103 rfl (SH.refl _) ?_
  repeat' (first | (refine TL_neq_same rfl rfl rfl ?_) | refine r1 ?_ | (apply TL_box; exact rfl; exact rfl; exact rfl; intro _ _) | (apply TL_alloc; exact rfl; intro _ _) | (apply TL_buildSlice; exact rfl; exact rfl; exact rfl; exact rfl; exact rfl; intro _ _))
  exact TQ_ret1 Try.results103 (RV.tmp rfl) (fun w' hs => ⟨rfl, hs.below⟩)
theorem c105 (x : Int) (w : World) : Calls Try.prog 105 #[.int .i64 x] w (RetV w (.bool false)) := by
  refine enter (args := [.int .i64 x]) Try.func105 rfl Try.ntmps105 rfl (SH.refl _) ?_
  repeat' (first | (refine TL_neq_same rfl rfl rfl ?_) | refine r1 ?_ | (apply TL_box; exact rfl; exact rfl; exact rfl; intro _ _) | (apply TL_alloc; exact rfl; intro _ _) | (apply TL_buildSlice; exact rfl; exact rfl; exact rfl; exact rfl; exact rfl; intro _ _))
  exact TQ_ret1 Try.results105 (RV.tmp rfl) (fun w' hs => ⟨rfl, hs.below⟩)
theorem c102 (x y : Int) (w : World) : Calls Try.prog 102 #[.int .i64 x, .int .i64 y] w (RetV w (.bool (decide (x < y)))) := by
  refine enter (args := [.int .i64 x, .int .i64 y]) Try.func102 rfl Try.ntmps102 rfl (SH.refl _) ?_
  repeat' (first | refine rn ?_ | (apply TL_box; exact rfl; exact rfl; exact rfl; intro _ _) | (apply TL_alloc; exact rfl; intro _ _) | (apply TL_buildSlice; exact rfl; exact rfl; exact rfl; exact rfl; exact rfl; intro _ _))
  refine TL_callV rfl rfl rfl (fun w _ => c105 _ w) ?_
  repeat' (first | (refine TL_guard_un rfl rfl rfl ?_) | refine r1 ?_ | (apply TL_box; exact rfl; exact rfl; exact rfl; intro _ _) | (apply TL_alloc; exact rfl; intro _ _) | (apply TL_buildSlice; exact rfl; exact rfl; exact rfl; exact rfl; exact rfl; intro _ _))
  exact TQ_ret1 Try.results102 (RV.tmp rfl) (fun w' hs => ⟨rfl, hs.below⟩)

theorem wrap_u64_nn {n : Int} (h : 0 ≤ n) (h2 : n ≤ 9223372036854775807) : IntKind.u64.wrap n = n := by rw [IntKind.wrap_u64]; omega
theorem wrap_i64_nn {n : Int} (h : 0 ≤ n) (h2 : n ≤ 9223372036854775807) : IntKind.i64.wrap n = n := wrap_i64_of (by omega)

/-- The first place of a number that is not below x. -/
theorem c98 (l : List Int) (ao : Option Addr) (c : Nat) (t : Int) (hl : l.length ≤ 1000000) (hs : ∀ (i j : Nat) x y, i ≤ j → l[i]? = some x → l[j]? = some y → x ≤ y) (w : World) (ha : Sl w 1 encI ao l) :
    Calls Try.prog 98 #[.slice ao l.length c, .int .i64 t] w (RetP w.heap.size w (fun q : Nat × Bool => .tuple #[.int .i64 q.1, .bool q.2]) (fun _ => []) (fun q => q.1 ≤ l.length ∧ (∀ (i : Nat) x, i < q.1 → l[i]? = some x → x < t) ∧ (∀ (i : Nat) x, q.1 ≤ i → l[i]? = some x → t ≤ x))) := by
  refine enter (args := [.slice ao l.length c, .int .i64 t]) Try.func98 rfl Try.ntmps98 rfl (SH.refl _) ?_
  repeat' (first | refine rn ?_ | (apply TL_box; exact rfl; exact rfl; exact rfl; intro _ _) | (apply TL_alloc; exact rfl; intro _ _) | (apply TL_buildSlice; exact rfl; exact rfl; exact rfl; exact rfl; exact rfl; intro _ _))
  refine TC_loop (σ := Nat × Nat) (fun q => q.1 ≤ q.2 ∧ q.2 ≤ l.length ∧ (∀ (i : Nat) x, i < q.1 → l[i]? = some x → x < t) ∧ (∀ (i : Nat) x, q.2 ≤ i → l[i]? = some x → t ≤ x)) (fun q => [(0, .slice ao l.length c), (1, .int .i64 t), (6, .int .i64 l.length), (7, .int .i64 q.1), (8, .int .i64 q.2)]) (fun _ => []) (fun q => q.2 - q.1) (0, l.length) ⟨Nat.zero_le _, Nat.le_refl _, fun i x h => by omega, fun i x h hx => ?_⟩ sb (fun w h => h) ?_
  · dsimp only at h
    rw [List.getElem?_eq_none h] at hx; cases hx
  rintro ⟨a, b⟩ ⟨h1, h2, h3, h4⟩
  dsimp only at h1 h2 h3 h4 ⊢
  repeat' (first | refine rn ?_ | (apply TL_box; exact rfl; exact rfl; exact rfl; intro _ _) | (apply TL_alloc; exact rfl; intro _ _) | (apply TL_buildSlice; exact rfl; exact rfl; exact rfl; exact rfl; exact rfl; intro _ _))
  refine TC_cond_dec rfl (fun h5 => ?_) (fun h5 => ?_)
  · have hm : ((a : Int) + (b : Int)) / 2 = (((a + b) / 2 : Nat) : Int) := by omega
    obtain ⟨x, hx⟩ : ∃ x, l[(a + b) / 2]? = some x := ⟨_, List.getElem?_eq_getElem (by omega)⟩
    repeat' (first | (refine TL_conv_same rfl rfl (wrap_u64_nn (by omega) (by omega)) ?_) | (refine TL_conv_same rfl rfl (wrap_i64_nn (by omega) (by omega)) ?_) | (refine TL_half rfl rfl rfl rfl (by omega) ?_) | refine r1 ?_ | (apply TL_box; exact rfl; exact rfl; exact rfl; intro _ _) | (apply TL_alloc; exact rfl; intro _ _) | (apply TL_buildSlice; exact rfl; exact rfl; exact rfl; exact rfl; exact rfl; intro _ _))
    refine TL_index ((a + b) / 2) rfl rfl rfl (fun w h => h.sl ha) hm (by omega) (Nat.le_refl _) ?_
    refine TL_load_el1 (u := x) rfl rfl (fun w h => h.sl ha) hx rfl ?_
    repeat' (first | refine rn ?_ | (apply TL_box; exact rfl; exact rfl; exact rfl; intro _ _) | (apply TL_alloc; exact rfl; intro _ _) | (apply TL_buildSlice; exact rfl; exact rfl; exact rfl; exact rfl; exact rfl; intro _ _))
    refine TL_callV rfl rfl rfl (fun w _ => c102 x t w) ?_
    repeat' (first | refine rn ?_ | (apply TL_box; exact rfl; exact rfl; exact rfl; intro _ _) | (apply TL_alloc; exact rfl; intro _ _) | (apply TL_buildSlice; exact rfl; exact rfl; exact rfl; exact rfl; exact rfl; intro _ _))
    refine TC_cond_dec rfl (fun h6 => ?_) (fun h6 => ?_)
    · repeat' (first | refine rn ?_ | (apply TL_box; exact rfl; exact rfl; exact rfl; intro _ _) | (apply TL_alloc; exact rfl; intro _ _) | (apply TL_buildSlice; exact rfl; exact rfl; exact rfl; exact rfl; exact rfl; intro _ _))
      rw [hm]
      refine TQ_round ((a + b) / 2 + 1, b) ⟨by dsimp only; omega, h2, fun i y hi hy => ?_, h4⟩ (by dsimp only; omega) sb (fun w h => h)
      dsimp only at hi
      have := hs i ((a + b) / 2) y x (by omega) hy hx
      omega
    · repeat' (first | refine rn ?_ | (apply TL_box; exact rfl; exact rfl; exact rfl; intro _ _) | (apply TL_alloc; exact rfl; intro _ _) | (apply TL_buildSlice; exact rfl; exact rfl; exact rfl; exact rfl; exact rfl; intro _ _))
      rw [hm]
      refine TQ_round (a, (a + b) / 2) ⟨by dsimp only; omega, by dsimp only; omega, h3, fun i y hi hy => ?_⟩ (by dsimp only; omega) sb (fun w h => h)
      dsimp only at hi
      have := hs ((a + b) / 2) i x y (by omega) hx hy
      omega
  · have hab : a = b := by omega
    subst hab
    have fin : ∀ (v : Bool) (w' : World), SH w.heap.size w w' [] → RetP w.heap.size w (fun q : Nat × Bool => .tuple #[.int .i64 q.1, .bool q.2]) (fun _ => []) (fun q => q.1 ≤ l.length ∧ (∀ (i : Nat) x, i < q.1 → l[i]? = some x → x < t) ∧ (∀ (i : Nat) x, q.1 ≤ i → l[i]? = some x → t ≤ x)) (.returned (.tuple #[.int .i64 a, .bool v])) w' :=
      fun v w' hs => ⟨(a, v), ⟨h2, h3, h4⟩, rfl, hs⟩
    by_cases h6 : a < l.length
    · obtain ⟨x, hx⟩ : ∃ x, l[a]? = some x := ⟨_, List.getElem?_eq_getElem h6⟩
      have h7 : (a : Int) < (l.length : Int) := by omega
      by_cases h8 : x = t
      · repeat' (first | (refine TL_lss_t rfl rfl rfl h7 ?_) | (refine TL_eql_t rfl rfl rfl h8 ?_) | refine r1 ?_ | (apply TL_box; exact rfl; exact rfl; exact rfl; intro _ _) | (apply TL_alloc; exact rfl; intro _ _) | (apply TL_buildSlice; exact rfl; exact rfl; exact rfl; exact rfl; exact rfl; intro _ _))
        refine TL_index a rfl rfl rfl (fun w h => h.sl ha) rfl h6 (Nat.le_refl _) ?_
        repeat' (first | refine rn ?_ | (apply TL_box; exact rfl; exact rfl; exact rfl; intro _ _) | (apply TL_alloc; exact rfl; intro _ _) | (apply TL_buildSlice; exact rfl; exact rfl; exact rfl; exact rfl; exact rfl; intro _ _))
        refine TL_load_el1 (u := x) rfl rfl (fun w h => h.sl ha) hx rfl ?_
        repeat' (first | (refine TL_eql_t rfl rfl rfl h8 ?_) | refine r1 ?_ | (apply TL_box; exact rfl; exact rfl; exact rfl; intro _ _) | (apply TL_alloc; exact rfl; intro _ _) | (apply TL_buildSlice; exact rfl; exact rfl; exact rfl; exact rfl; exact rfl; intro _ _))
        exact TQ_ret2 Try.results98 (RV.tmp rfl) (RV.tmp rfl) (fun w' hs => fin true w' hs)
      · repeat' (first | (refine TL_lss_t rfl rfl rfl h7 ?_) | (refine TL_eql_f rfl rfl rfl h8 ?_) | refine r1 ?_ | (apply TL_box; exact rfl; exact rfl; exact rfl; intro _ _) | (apply TL_alloc; exact rfl; intro _ _) | (apply TL_buildSlice; exact rfl; exact rfl; exact rfl; exact rfl; exact rfl; intro _ _))
        refine TL_index a rfl rfl rfl (fun w h => h.sl ha) rfl h6 (Nat.le_refl _) ?_
        repeat' (first | refine rn ?_ | (apply TL_box; exact rfl; exact rfl; exact rfl; intro _ _) | (apply TL_alloc; exact rfl; intro _ _) | (apply TL_buildSlice; exact rfl; exact rfl; exact rfl; exact rfl; exact rfl; intro _ _))
        refine TL_load_el1 (u := x) rfl rfl (fun w h => h.sl ha) hx rfl ?_
        repeat' (first | (refine TL_eql_f rfl rfl rfl h8 ?_) | refine r1 ?_ | (apply TL_box; exact rfl; exact rfl; exact rfl; intro _ _) | (apply TL_alloc; exact rfl; intro _ _) | (apply TL_buildSlice; exact rfl; exact rfl; exact rfl; exact rfl; exact rfl; intro _ _))
        refine TL_index a rfl rfl rfl (fun w h => h.sl ha) rfl h6 (Nat.le_refl _) ?_
        repeat' (first | refine rn ?_ | (apply TL_box; exact rfl; exact rfl; exact rfl; intro _ _) | (apply TL_alloc; exact rfl; intro _ _) | (apply TL_buildSlice; exact rfl; exact rfl; exact rfl; exact rfl; exact rfl; intro _ _))
        refine TL_load_el1 (u := x) rfl rfl (fun w h => h.sl ha) hx rfl ?_
        repeat' (first | refine rn ?_ | (apply TL_box; exact rfl; exact rfl; exact rfl; intro _ _) | (apply TL_alloc; exact rfl; intro _ _) | (apply TL_buildSlice; exact rfl; exact rfl; exact rfl; exact rfl; exact rfl; intro _ _))
        refine TL_callV rfl rfl rfl (fun w _ => c103 x w) ?_
        repeat' (first | refine rn ?_ | (apply TL_box; exact rfl; exact rfl; exact rfl; intro _ _) | (apply TL_alloc; exact rfl; intro _ _) | (apply TL_buildSlice; exact rfl; exact rfl; exact rfl; exact rfl; exact rfl; intro _ _))
        exact TQ_ret2 Try.results98 (RV.tmp rfl) (RV.tmp rfl) (fun w' hs => fin false w' hs)
    · have h7 : ¬ (a : Int) < (l.length : Int) := by omega
      repeat' (first | (refine TL_lss_f rfl rfl rfl h7 ?_) | refine r1 ?_ | (apply TL_box; exact rfl; exact rfl; exact rfl; intro _ _) | (apply TL_alloc; exact rfl; intro _ _) | (apply TL_buildSlice; exact rfl; exact rfl; exact rfl; exact rfl; exact rfl; intro _ _))
      exact TQ_ret2 Try.results98 (RV.tmp rfl) (RV.tmp rfl) (fun w' hs => fin false w' hs)
end Go.Proofs.Ytccgplomnjpniaa
