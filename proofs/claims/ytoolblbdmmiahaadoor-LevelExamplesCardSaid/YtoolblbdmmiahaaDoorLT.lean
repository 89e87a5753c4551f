/- Plain law: slopes and lengths. -/
import Derived.Test.YtoolblbdmmiahaaDoorLS
import Derived.Test.YtoolblbdmmiahaaDoorLO
namespace Go.Proofs.YtoolblbdmmiahaaDoor
open Go Go.Eng Go.RowKit Go.Proofs

theorem slope_known {f : Sp} {a b a' : Int} (h0 : 0 < a) (h1 : a ≤ a') (h2 : a' ≤ b) : (slopeR f (a, b)).1 ≤ (slopeR f (a', b)).1 ∧ (slopeR f (a', b)).2 ≤ (slopeR f (a, b)).2 := by
  simp only [slopeR]
  constructor
  · split
    · exact div_neg_len (by omega) h0 h1
    · exact Int.le_refl _
  · split
    · exact Int.le_refl _
    · by_cases hz : f.2 = 0
      · rw [hz]; simp
      · have := div_neg_len (a := -(f.2 * 1000)) (by omega) h0 h1
        omega
theorem slope_back (f long : Sp) : slopeR (-f.2, -f.1) long = (-(slopeR f long).2, -(slopeR f long).1) := by
  have e : ∀ x : Int, -x * 1000 = -(x * 1000) := fun x => Int.neg_mul _ _
  unfold slopeR
  refine Prod.ext ?_ ?_ <;> dsimp only
  · rw [e]
    split
    · rw [if_neg (by omega), Int.neg_neg]
    · by_cases hz : f.2 = 0
      · rw [if_neg (by omega), hz]; simp
      · rw [if_pos (by omega), Int.neg_neg]
  · rw [e, Int.neg_neg]
    split
    · rw [if_neg (by omega)]
    · by_cases hz : f.1 = 0
      · rw [if_neg (by omega), hz]; simp
      · rw [if_pos (by omega)]
theorem half_div {x L : Int} (h : 0 < L) : x / (2 * L) = x / L / 2 := by
  rw [Int.mul_comm, Int.ediv_ediv_of_nonneg (by omega)]
theorem slope_long {f : Sp} {a b : Int} (h0 : 0 < a) (h1 : a ≤ b) : ((slopeR f (2 * a, 2 * b)).1 - 1) * 2 ≤ (slopeR f (a, b)).1 ∧ (slopeR f (a, b)).1 - 1 ≤ (slopeR f (2 * a, 2 * b)).1 * 2 ∧ (slopeR f (a, b)).2 ≤ ((slopeR f (2 * a, 2 * b)).2 + 1) * 2 ∧ (slopeR f (2 * a, 2 * b)).2 * 2 ≤ (slopeR f (a, b)).2 + 1 := by
  simp only [slopeR]
  refine ⟨?_, ?_, ?_, ?_⟩
  · split
    · rw [half_div h0]; omega
    · rw [half_div (by omega)]; omega
  · split
    · rw [half_div h0]; omega
    · rw [half_div (by omega)]; omega
  · split
    · rw [half_div (by omega)]; omega
    · rw [half_div h0]; omega
  · split
    · rw [half_div (by omega)]; omega
    · rw [half_div h0]; omega
/-- A narrower fall has a narrower slope. -/
theorem slope_mono {f g long : Sp} (h0 : 0 < long.1) (h1 : long.1 ≤ long.2) (hlo : f.1 ≤ g.1) (hhi : g.2 ≤ f.2) : (slopeR f long).1 ≤ (slopeR g long).1 ∧ (slopeR g long).2 ≤ (slopeR f long).2 := by
  simp only [slopeR]
  constructor
  · by_cases hf : f.1 < 0
    · rw [if_pos hf]
      by_cases hg : g.1 < 0
      · rw [if_pos hg]; exact div_mono h0 (by omega)
      · rw [if_neg hg]
        have h2 : f.1 * 1000 / long.1 < 0 := Int.ediv_neg_of_neg_of_pos (by omega) h0
        have h3 : 0 ≤ g.1 * 1000 / long.2 := Int.ediv_nonneg (by omega) (by omega)
        omega
    · rw [if_neg hf, if_neg (by omega)]; exact div_mono (by omega) (by omega)
  · by_cases hf : f.2 < 0
    · rw [if_pos hf, if_pos (by omega)]
      have := div_mono (a := -(f.2 * 1000)) (b := -(g.2 * 1000)) (L := long.2) (by omega) (by omega)
      omega
    · rw [if_neg hf]
      by_cases hg : g.2 < 0
      · rw [if_pos hg]
        have h2 : 0 ≤ -(g.2 * 1000) / long.2 := Int.ediv_nonneg (by omega) (by omega)
        have h3 : -(f.2 * 1000) / long.1 ≤ 0 := by
          by_cases hz : f.2 = 0
          · rw [hz]; simp
          · have := Int.ediv_neg_of_neg_of_pos (a := -(f.2 * 1000)) (b := long.1) (by omega) h0; omega
        omega
      · rw [if_neg hg]
        have := div_mono (a := -(f.2 * 1000)) (b := -(g.2 * 1000)) (L := long.1) h0 (by omega)
        omega
end Go.Proofs.YtoolblbdmmiahaaDoor
