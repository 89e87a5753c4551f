/- Walks: whether cuts are valid, of the reference. -/
import Derived.Test.YtccgplomnjpniaaE7
namespace Go.Proofs.Ytccgplomnjpniaa
open Go Go.Eng Go.RowKit Go.Proofs
set_option maxHeartbeats 1000000
set_option maxRecDepth 10000
attribute [local irreducible] TL TC TQ

def cutsB (n : Int) : Int → List Int → Bool
  | _, [] => true
  | lo, x :: l => decide (In x lo (n - 1)) && cutsB n (x + 1) l
/-- From what a cut may be on. -/
def nx (l : List Int) : Nat → Int
  | 0 => 0
  | i + 1 => l.getD i 0 + 1
theorem cutsB_iff (n : Int) : ∀ (l : List Int) (lo : Int), cutsB n lo l = true ↔ ∀ (i : Nat) x, l[i]? = some x → In x (if i = 0 then lo else nx l i) (n - 1) := by
  intro l
  induction l with
  | nil => intro lo; simp [cutsB]
  | cons y l ih =>
    intro lo
    simp only [cutsB, Bool.and_eq_true, decide_eq_true_eq, ih]
    constructor
    · rintro ⟨h1, h2⟩ i x hx
      cases i with
      | zero => simp at hx; subst hx; simpa using h1
      | succ i =>
        have := h2 i x (by simpa using hx)
        cases i with
        | zero => simpa [nx] using this
        | succ i => simpa [nx] using this
    · intro h
      refine ⟨by simpa using h 0 y rfl, fun i x hx => ?_⟩
      have := h (i + 1) x (by simpa using hx)
      cases i with
      | zero => simpa [nx] using this
      | succ i => simpa [nx] using this
theorem cutsB_zero (n : Int) (l : List Int) : cutsB n 0 l = true ↔ ∀ (i : Nat) x, l[i]? = some x → In x (nx l i) (n - 1) := by
  rw [cutsB_iff]
  constructor <;> intro h i x hx <;> have := h i x hx <;> cases i <;> simpa [nx] using this
/-- As the reference says it. -/
theorem cutsB_ref (n : Int) (l : List Int) : cutsB n 0 l = true ↔ ∀ (i : Nat) x, l[i]? = some x → In x 0 (n - 1) ∧ ∀ j y, i = j + 1 → l[j]? = some y → y < x := by
  rw [cutsB_zero]
  constructor
  · intro h
    have hpos : ∀ (i : Nat) x, l[i]? = some x → 0 ≤ x := by
      intro i
      induction i with
      | zero => intro x hx; exact (h 0 x hx).1
      | succ i ih =>
        intro x hx
        have h1 := h (i + 1) x hx
        obtain ⟨y, hy⟩ : ∃ y, l[i]? = some y := ⟨_, List.getElem?_eq_getElem (by have := (List.getElem?_eq_some_iff.1 hx).1; omega)⟩
        have h2 := ih y hy
        have h3 := h1.1
        simp only [nx, List.getD_eq_getElem?_getD, hy, Option.getD_some] at h3
        omega
    intro i x hx
    refine ⟨⟨hpos i x hx, (h i x hx).2⟩, fun j y hj hy => ?_⟩
    subst hj
    have h3 := (h (j + 1) x hx).1
    simp only [nx, List.getD_eq_getElem?_getD, hy, Option.getD_some] at h3
    omega
  · intro h i x hx
    obtain ⟨h1, h2⟩ := h i x hx
    cases i with
    | zero => exact h1
    | succ j =>
      obtain ⟨y, hy⟩ : ∃ y, l[j]? = some y := ⟨_, List.getElem?_eq_getElem (by have := (List.getElem?_eq_some_iff.1 hx).1; omega)⟩
      have := h2 j y rfl hy
      refine ⟨?_, h1.2⟩
      simp only [nx, List.getD_eq_getElem?_getD, hy, Option.getD_some]
      omega

theorem c41 (b : Bn) (ao : Option Addr) (c : Nat) (l : List Int) (lo : Option Addr) (lc : Nat) (hl : b.ripe.length ≤ 1000000) (hl2 : l.length ≤ 1000000) (w : World) (ha : Sl w 1 encI lo l) :
    Calls Try.prog 41 #[.agg (encBn b ao c).toArray, .slice lo l.length lc] w (RetV w (.bool (cutsB b.ripe.length 0 l))) := by
  refine enter (args := [.agg (encBn b ao c).toArray, .slice lo l.length lc]) Try.func41 rfl Try.ntmps41 rfl (SH.refl _) ?_
  repeat' (first | refine rn ?_ | (apply TL_box; exact rfl; exact rfl; exact rfl; intro _ _) | (apply TL_alloc; exact rfl; intro _ _) | (apply TL_buildSlice; exact rfl; exact rfl; exact rfl; exact rfl; exact rfl; intro _ _))
  rename_i b2 _
  refine TC_loop (σ := Nat) (fun k => k ≤ l.length ∧ ∀ (i : Nat) x, i < k → l[i]? = some x → In x 0 ((b.ripe.length : Int) - 1) ∧ ∀ j y, i = j + 1 → l[j]? = some y → y < x) (fun k => [(1, .slice lo l.length lc), (2, .pointer (some ⟨b2, 0, none⟩)), (5, .int .i64 k)]) (fun k => [(b2, .cells (encBn b ao c) 46)]) (fun k => l.length - k) 0 ⟨Nat.zero_le _, fun i x h => by omega⟩ sb (fun w h => h) (fun k hk => ?_)
  repeat' (first | refine rn ?_ | (apply TL_box; exact rfl; exact rfl; exact rfl; intro _ _) | (apply TL_alloc; exact rfl; intro _ _) | (apply TL_buildSlice; exact rfl; exact rfl; exact rfl; exact rfl; exact rfl; intro _ _))
  refine TC_cond_dec rfl (fun h1 => ?_) (fun h1 => ?_)
  · have hlt : k < l.length := by omega
    obtain ⟨x, hx⟩ : ∃ x, l[k]? = some x := ⟨_, List.getElem?_eq_getElem hlt⟩
    have no : ∀ (_ : ¬ (In x 0 ((b.ripe.length : Int) - 1) ∧ ∀ j y, k = j + 1 → l[j]? = some y → y < x)), cutsB b.ripe.length 0 l = false := fun h => by
      cases hc : cutsB b.ripe.length 0 l with
      | false => rfl
      | true => exact absurd ((cutsB_ref _ _).1 hc k x hx) h
    have step : (In x 0 ((b.ripe.length : Int) - 1) ∧ ∀ j y, k = j + 1 → l[j]? = some y → y < x) → ∀ (i : Nat) z, i < k + 1 → l[i]? = some z → In z 0 ((b.ripe.length : Int) - 1) ∧ ∀ j y, i = j + 1 → l[j]? = some y → y < z := fun h i z hi hz => by
      rcases Nat.lt_or_ge i k with h' | h'
      · exact hk.2 i z h' hz
      · have : i = k := by omega
        subst this
        rw [hx] at hz; cases hz; exact h
    by_cases g1 : In x 0 ((b.ripe.length : Int) - 1)
    · have c48' := fun w => c48 x 0 ((b.ripe.length : Int) - 1) w
      rw [decide_eq_true g1] at c48'
      cases k with
      | zero =>
        repeat' (first | refine rn ?_ | (apply TL_box; exact rfl; exact rfl; exact rfl; intro _ _) | (apply TL_alloc; exact rfl; intro _ _) | (apply TL_buildSlice; exact rfl; exact rfl; exact rfl; exact rfl; exact rfl; intro _ _))
        apply TC_draw 26; kernel_rfl; exact Try.mixed
        · iterate 2 (refine' pv ?_; rotate_left)
          (refine' PG.val rfl rfl (by intro _X; refine TL_index 0 rfl rfl rfl (fun w h => h.sl ha) rfl hlt (Nat.le_refl _) ?_; exact qe) ?_; rotate_left)
          (refine' PG.val rfl rfl (by intro _X; refine TL_load_el1 (u := x) rfl rfl (fun w h => h.sl ha) hx rfl ?_; exact qe) ?_; rotate_left)
          iterate 4 (refine' pv ?_; rotate_left)
          (refine' PG.val rfl rfl (by intro _X; refine TL_callV rfl rfl rfl (fun w _ => c48' w) ?_; exact qe) ?_; rotate_left)
          iterate 2 (refine' pv ?_; rotate_left)
          (refine' pg ?_; rotate_left)
          (refine' PG.val rfl rfl (by intro _X; (refine TL_guard_yes rfl rfl rfl ?_); refine TL_gtr_f rfl rfl rfl (by omega) ?_; exact qe) ?_; rotate_left)
          (refine' pg ?_; rotate_left)
          iterate 10 (refine' pv ?_; rotate_left)
          (refine' pg ?_; rotate_left)
          (refine' pv ?_; rotate_left)
          exact PG.nil
        change TL _ _ _ _ _ _ _ _ _ _ _
        repeat' (first | refine rn ?_ | (apply TL_box; exact rfl; exact rfl; exact rfl; intro _ _) | (apply TL_alloc; exact rfl; intro _ _) | (apply TL_buildSlice; exact rfl; exact rfl; exact rfl; exact rfl; exact rfl; intro _ _))
        exact TQ_round 1 ⟨hlt, step ⟨g1, fun j y h => by omega⟩⟩ (by omega) sb (fun w h => h)
      | succ j =>
        obtain ⟨y, hy⟩ : ∃ y, l[j]? = some y := ⟨_, List.getElem?_eq_getElem (by omega)⟩
        repeat' (first | refine rn ?_ | (apply TL_box; exact rfl; exact rfl; exact rfl; intro _ _) | (apply TL_alloc; exact rfl; intro _ _) | (apply TL_buildSlice; exact rfl; exact rfl; exact rfl; exact rfl; exact rfl; intro _ _))
        apply TC_draw 26; kernel_rfl; exact Try.mixed
        · iterate 2 (refine' pv ?_; rotate_left)
          (refine' PG.val rfl rfl (by intro _X; refine TL_index (j + 1) rfl rfl rfl (fun w h => h.sl ha) rfl hlt (Nat.le_refl _) ?_; exact qe) ?_; rotate_left)
          (refine' PG.val rfl rfl (by intro _X; refine TL_load_el1 (u := x) rfl rfl (fun w h => h.sl ha) hx rfl ?_; exact qe) ?_; rotate_left)
          iterate 4 (refine' pv ?_; rotate_left)
          (refine' PG.val rfl rfl (by intro _X; refine TL_callV rfl rfl rfl (fun w _ => c48' w) ?_; exact qe) ?_; rotate_left)
          iterate 2 (refine' pv ?_; rotate_left)
          (refine' pg ?_; rotate_left)
          (refine' PG.val rfl rfl (by intro _X; (refine TL_guard_yes rfl rfl rfl ?_); refine TL_gtr_t rfl rfl rfl (by omega) ?_; exact qe) ?_; rotate_left)
          iterate 3 (refine' pg ?_; rotate_left)
          (refine' PG.val rfl rfl (by intro _X; (refine TL_guard_yes rfl rfl rfl ?_); refine TL_index (j + 1) rfl rfl rfl (fun w h => h.sl ha) rfl hlt (Nat.le_refl _) ?_; exact qe) ?_; rotate_left)
          (refine' PG.val rfl rfl (by intro _X; (refine TL_guard_yes rfl rfl rfl ?_); refine TL_load_el1 (u := x) rfl rfl (fun w h => h.sl ha) hx rfl ?_; exact qe) ?_; rotate_left)
          iterate 3 (refine' pg ?_; rotate_left)
          (refine' PG.val rfl rfl (by intro _X; (refine TL_guard_yes rfl rfl rfl ?_); refine TL_index j rfl rfl rfl (fun w h => h.sl ha) (by omega) (by omega) (Nat.le_refl _) ?_; exact qe) ?_; rotate_left)
          (refine' PG.val rfl rfl (by intro _X; (refine TL_guard_yes rfl rfl rfl ?_); refine TL_load_el1 (u := y) rfl rfl (fun w h => h.sl ha) hy rfl ?_; exact qe) ?_; rotate_left)
          iterate 2 (refine' pg ?_; rotate_left)
          (refine' pv ?_; rotate_left)
          exact PG.nil
        change TL _ _ _ _ _ _ _ _ _ _ _
        repeat' (first | refine rn ?_ | (apply TL_box; exact rfl; exact rfl; exact rfl; intro _ _) | (apply TL_alloc; exact rfl; intro _ _) | (apply TL_buildSlice; exact rfl; exact rfl; exact rfl; exact rfl; exact rfl; intro _ _))
        refine TC_cond_dec rfl (fun h2 => ?_) (fun h2 => ?_)
        · repeat' (first | refine rn ?_ | (apply TL_box; exact rfl; exact rfl; exact rfl; intro _ _) | (apply TL_alloc; exact rfl; intro _ _) | (apply TL_buildSlice; exact rfl; exact rfl; exact rfl; exact rfl; exact rfl; intro _ _))
          rw [no (fun h => by have := h.2 j y rfl hy; omega)]
          exact TQ_ret1 Try.results41 (RV.tmp rfl) (fun w' hs => ⟨rfl, hs.below⟩)
        · repeat' (first | refine rn ?_ | (apply TL_box; exact rfl; exact rfl; exact rfl; intro _ _) | (apply TL_alloc; exact rfl; intro _ _) | (apply TL_buildSlice; exact rfl; exact rfl; exact rfl; exact rfl; exact rfl; intro _ _))
          exact TQ_round (j + 1 + 1) ⟨hlt, step ⟨g1, fun i z hi hz => by
            obtain rfl : i = j := by omega
            rw [hy] at hz; cases hz; omega⟩⟩ (by omega) sb (fun w h => h)
    · have c48' := fun w => c48 x 0 ((b.ripe.length : Int) - 1) w
      rw [decide_eq_false g1] at c48'
      rw [no (fun h => g1 h.1)]
      repeat' (first | refine rn ?_ | (apply TL_box; exact rfl; exact rfl; exact rfl; intro _ _) | (apply TL_alloc; exact rfl; intro _ _) | (apply TL_buildSlice; exact rfl; exact rfl; exact rfl; exact rfl; exact rfl; intro _ _))
      apply TC_draw 26; kernel_rfl; exact Try.mixed
      · iterate 2 (refine' pv ?_; rotate_left)
        (refine' PG.val rfl rfl (by intro _X; refine TL_index k rfl rfl rfl (fun w h => h.sl ha) rfl hlt (Nat.le_refl _) ?_; exact qe) ?_; rotate_left)
        (refine' PG.val rfl rfl (by intro _X; refine TL_load_el1 (u := x) rfl rfl (fun w h => h.sl ha) hx rfl ?_; exact qe) ?_; rotate_left)
        iterate 4 (refine' pv ?_; rotate_left)
        (refine' PG.val rfl rfl (by intro _X; refine TL_callV rfl rfl rfl (fun w _ => c48' w) ?_; exact qe) ?_; rotate_left)
        iterate 5 (refine' pv ?_; rotate_left)
        iterate 10 (refine' pv ?_; rotate_left)
        iterate 2 (refine' pv ?_; rotate_left)
        exact PG.nil
      change TL _ _ _ _ _ _ _ _ _ _ _
      repeat' (first | refine rn ?_ | (apply TL_box; exact rfl; exact rfl; exact rfl; intro _ _) | (apply TL_alloc; exact rfl; intro _ _) | (apply TL_buildSlice; exact rfl; exact rfl; exact rfl; exact rfl; exact rfl; intro _ _))
      exact TQ_ret1 Try.results41 (RV.tmp rfl) (fun w' hs => ⟨rfl, hs.below⟩)
  · have hkl : k = l.length := by omega
    subst hkl
    repeat' (first | refine rn ?_ | (apply TL_box; exact rfl; exact rfl; exact rfl; intro _ _) | (apply TL_alloc; exact rfl; intro _ _) | (apply TL_buildSlice; exact rfl; exact rfl; exact rfl; exact rfl; exact rfl; intro _ _))
    rw [(cutsB_ref _ _).2 (fun i x hx => hk.2 i x (List.getElem?_eq_some_iff.1 hx).1 hx)]
    exact TQ_ret1 Try.results41 (RV.tmp rfl) (fun w' hs => ⟨rfl, hs.below⟩)
end Go.Proofs.Ytccgplomnjpniaa
