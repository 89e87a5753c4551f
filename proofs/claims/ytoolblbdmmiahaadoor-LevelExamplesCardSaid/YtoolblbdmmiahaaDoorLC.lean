/- Plain law: readings that clash; the least error. -/
import Derived.Test.YtoolblbdmmiahaaDoorLQ
namespace Go.Proofs.YtoolblbdmmiahaaDoor
open Go Go.Eng Go.RowKit Go.Proofs

def withOut (o : Nat → Bool) (m : Nat) : Nat → Bool := fun j => decide (j = m) || o j
/-- The first m readings, one by one: what is left out, what is named. -/
def clK (S : Sv) : Nat → (Nat → Bool) × List Nat
  | 0 => (fun _ => false, [])
  | m + 1 => if (solveR S (withOut (clK S m).1 m) 0).2 = true then ((clK S m).1, (clK S m).2 ++ [m]) else (withOut (clK S m).1 m, (clK S m).2)
theorem fits_mono {S : Sv} {o o' : Nat → Bool} {w w' : Int} {h : Nat → Int} (ho : ∀ i, o i = true → o' i = true) (hw : w ≤ w') (hf : FitsAll S o w h) : FitsAll S o' w' h := by
  refine ⟨hf.1, fun i x hx hoi => ?_⟩
  have := hf.2 i x hx (by
    cases hc : o i with
    | false => rfl
    | true => rw [ho i hc] at hoi; cases hoi)
  unfold Fits at *
  omega
theorem solve_mono {S : Sv} (hS : OkSv S) {o o' : Nat → Bool} {w w' : Int} (ho : ∀ i, o i = true → o' i = true) (hw : w ≤ w') (hf : (solveR S o w).2 = true) : (solveR S o' w').2 = true := by
  obtain ⟨h, hh⟩ := (fits_iff hS o w).1 hf
  exact (fits_iff hS o' w').2 ⟨h, fits_mono ho hw hh⟩
theorem clK_spec {S : Sv} (hS : OkSv S) (h0 : (solveR S (fun _ => false) 0).2 = false) : ∀ m, (∀ i, (clK S m).1 i = true ↔ i < m ∧ i ∉ (clK S m).2) ∧ (∀ i ∈ (clK S m).2, i < m) ∧ (clK S m).2.Pairwise (· < ·) ∧ (solveR S (clK S m).1 0).2 = false ∧ ∀ i ∈ (clK S m).2, (solveR S (withOut (clK S m).1 i) 0).2 = true := by
  intro m
  induction m with
  | zero => exact ⟨fun i => by simp [clK], fun i hi => by simp [clK] at hi, by simp [clK], h0, fun i hi => by simp [clK] at hi⟩
  | succ m ih =>
    obtain ⟨a1, a2, a3, a4, a5⟩ := ih
    rw [clK]
    split
    · rename_i hf
      refine ⟨fun i => ?_, fun i hi => ?_, ?_, a4, fun i hi => ?_⟩
      · dsimp only
        rw [a1]
        constructor
        · rintro ⟨h1, h2⟩
          exact ⟨by omega, fun h => by rcases List.mem_append.1 h with h | h; exact h2 h; simp at h; omega⟩
        · rintro ⟨h1, h2⟩
          have : i ≠ m := fun h => h2 (List.mem_append_right _ (by simp [h]))
          exact ⟨by omega, fun h => h2 (List.mem_append_left _ h)⟩
      · rcases List.mem_append.1 hi with h | h
        · have := a2 i h; omega
        · simp at h; omega
      · refine List.pairwise_append.2 ⟨a3, by simp, fun a ha b hb => ?_⟩
        simp at hb; subst hb; exact a2 a ha
      · rcases List.mem_append.1 hi with h | h
        · exact a5 i h
        · simp at h; subst h; exact hf
    · rename_i hf
      refine ⟨fun i => ?_, fun i hi => by have := a2 i hi; omega, a3, by cases hc : (solveR S (withOut (clK S m).1 m) 0).2 with | false => rfl | true => exact absurd hc hf, fun i hi => ?_⟩
      · dsimp only [withOut]
        rw [Bool.or_eq_true, decide_eq_true_iff, a1]
        constructor
        · rintro (rfl | ⟨h1, h2⟩)
          · exact ⟨by omega, fun h => by have := a2 _ h; omega⟩
          · exact ⟨by omega, h2⟩
        · rintro ⟨h1, h2⟩
          by_cases h : i = m
          · exact .inl h
          · exact .inr ⟨by omega, h2⟩
      · refine solve_mono hS (fun j hj => ?_) (Int.le_refl _) (a5 i hi)
        dsimp only [withOut] at hj ⊢
        rw [Bool.or_eq_true] at hj ⊢
        rcases hj with hj | hj
        · exact .inl hj
        · exact .inr (by rw [Bool.or_eq_true]; exact .inr hj)
/-- The least number from lo on for which p holds, by halving. -/
def leastR (p : Int → Bool) : Nat → Int → Int → Int
  | 0, lo, _ => lo
  | n + 1, lo, hi => if lo < hi then (if p ((lo + hi) / 2) = true then leastR p n lo ((lo + hi) / 2) else leastR p n ((lo + hi) / 2 + 1) hi) else lo
theorem leastR_spec {p : Int → Bool} (hp : ∀ a b, a ≤ b → p a = true → p b = true) : ∀ (n : Nat) (lo hi : Int), hi - lo ≤ n → lo ≤ hi → p hi = true → (∀ a, a < lo → p a = false) → p (leastR p n lo hi) = true ∧ lo ≤ leastR p n lo hi ∧ leastR p n lo hi ≤ hi ∧ ∀ a, a < leastR p n lo hi → p a = false := by
  intro n
  induction n with
  | zero =>
    intro lo hi h1 h2 h3 h4
    have : lo = hi := by omega
    subst this
    exact ⟨h3, Int.le_refl _, Int.le_refl _, h4⟩
  | succ n ih =>
    intro lo hi h1 h2 h3 h4
    rw [leastR]
    split
    · rename_i hlt
      split
      · rename_i hm
        have := ih lo ((lo + hi) / 2) (by omega) (by omega) hm h4
        exact ⟨this.1, this.2.1, by have := this.2.2.1; omega, this.2.2.2⟩
      · rename_i hm
        have := ih ((lo + hi) / 2 + 1) hi (by omega) (by omega) h3 (fun a ha => by
          cases hc : p a with
          | false => rfl
          | true => exact absurd (hp a _ (by omega) hc) hm)
        exact ⟨this.1, by have := this.2.1; omega, this.2.2.1, this.2.2.2⟩
    · have : lo = hi := by omega
      subst this
      exact ⟨h3, Int.le_refl _, Int.le_refl _, h4⟩
/-- So wide that all fit. -/
theorem wide_fits {S : Sv} (hS : OkSv S) : (solveR S (fun _ => false) 40000000).2 = true := by
  refine (fits_iff hS _ _).2 ⟨fun _ => 0, fun i _ => by dsimp only; omega, fun i x hx _ => ?_⟩
  obtain ⟨_, _, _, _, h5, h6, _⟩ := hS
  unfold Fits
  rcases List.mem_append.1 (List.mem_of_getElem? hx) with h | h
  · obtain ⟨y, hy, rfl⟩ := List.mem_map.1 h
    have := (h5 y hy).2
    simp only [Ord] at this
    dsimp only; omega
  · obtain ⟨y, hy, rfl⟩ := List.mem_map.1 h
    have := (h6 y hy).2
    simp only [Ord] at this
    dsimp only; omega
def widenR (S : Sv) : Int := leastR (fun w => (solveR S (fun _ => false) w).2) 40000000 0 40000000
theorem widen_spec {S : Sv} (hS : OkSv S) : (solveR S (fun _ => false) (widenR S)).2 = true ∧ 0 ≤ widenR S ∧ widenR S ≤ 40000000 ∧ ∀ a, 0 ≤ a → a < widenR S → (solveR S (fun _ => false) a).2 = false := by
  have hf0 : ∀ (p : Int → Bool) (q : Int → Bool) (n : Nat) (lo hi : Int), (∀ a, lo ≤ a → p a = q a) → leastR p n lo hi = leastR q n lo hi := by
    intro p q n
    induction n with
    | zero => intro lo hi _; rfl
    | succ n ih =>
      intro lo hi h
      rw [leastR, leastR]
      split
      · rw [h _ (by omega), ih _ _ h, ih _ _ (fun a ha => h a (by omega))]
      · rfl
  have e := hf0 (fun w => (solveR S (fun _ => false) w).2) (fun w => decide (0 ≤ w) && (solveR S (fun _ => false) w).2) 40000000 0 40000000 (fun a ha => by simp [ha])
  have h := leastR_spec (p := fun w => decide (0 ≤ w) && (solveR S (fun _ => false) w).2) (fun a b hab ha => by
    rw [Bool.and_eq_true, decide_eq_true_iff] at ha ⊢
    exact ⟨by omega, solve_mono hS (fun _ h => h) hab ha.2⟩) 40000000 0 40000000 (by omega) (by omega) (by rw [wide_fits hS]; rfl) (fun a ha => by simp; omega)
  unfold widenR
  rw [e]
  obtain ⟨h1, h2, h3, h4⟩ := h
  rw [Bool.and_eq_true] at h1
  refine ⟨h1.2, h2, h3, fun a ha hl => ?_⟩
  have := h4 a hl
  rw [decide_eq_true ha] at this
  simpa using this
theorem widen_unique {S : Sv} (hS : OkSv S) {w : Int} (h0 : 0 ≤ w) (h1 : (solveR S (fun _ => false) w).2 = true) (h2 : ∀ a, 0 ≤ a → a < w → (solveR S (fun _ => false) a).2 = false) : w = widenR S := by
  obtain ⟨a1, a2, a3, a4⟩ := widen_spec hS
  by_cases h : w < widenR S
  · rw [a4 w h0 h] at h1; cases h1
  · by_cases h' : widenR S < w
    · rw [h2 _ a2 h'] at a1; cases a1
    · omega
end Go.Proofs.YtoolblbdmmiahaaDoor
