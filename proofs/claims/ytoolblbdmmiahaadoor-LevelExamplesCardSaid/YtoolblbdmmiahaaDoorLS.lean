/- Plain law: slopes. -/
import Derived.Test.YtoolblbdmmiahaaDoorLQ
namespace Go.Proofs.YtoolblbdmmiahaaDoor
open Go Go.Eng Go.RowKit Go.Proofs

/-- The slope of a fall along a length, in thousandths, rounded outwards. -/
def slopeR (fall long : Sp) : Sp := (if fall.1 < 0 then fall.1 * 1000 / long.1 else fall.1 * 1000 / long.2, if fall.2 < 0 then -(-(fall.2 * 1000) / long.2) else -(-(fall.2 * 1000) / long.1))
theorem div_mono {a b L : Int} (hL : 0 < L) (h : a ≤ b) : a / L ≤ b / L := Int.ediv_le_ediv hL h
theorem div_pos_len {a L M : Int} (ha : 0 ≤ a) (hL : 0 < L) (h : L ≤ M) : a / M ≤ a / L := by
  have h1 : a / M * M ≤ a := Int.ediv_mul_le a (by omega)
  have h0 : 0 ≤ a / M := Int.ediv_nonneg ha (by omega)
  have h2 : a / M * L ≤ a / M * M := Int.mul_le_mul_of_nonneg_left h h0
  exact (Int.le_ediv_iff_mul_le hL).2 (by omega)
theorem div_neg_len {a L M : Int} (ha : a < 0) (hL : 0 < L) (h : L ≤ M) : a / L ≤ a / M := by
  have h1 : a / L * L ≤ a := Int.ediv_mul_le a (by omega)
  have h0 : a / L < 0 := Int.ediv_neg_of_neg_of_pos ha hL
  have h2 : a / L * M ≤ a / L * L := by
    have h3 : -(a / L) * L ≤ -(a / L) * M := Int.mul_le_mul_of_nonneg_left h (by omega)
    rw [Int.neg_mul, Int.neg_mul] at h3; omega
  exact (Int.le_ediv_iff_mul_le (by omega)).2 (by omega)
theorem min_ends {a b L M : Int} (hab : a ≤ b) (hL : 0 < L) (h : L ≤ M) : min (min (min (a / L) (a / M)) (b / L)) (b / M) = if a < 0 then a / L else a / M := by
  have h1 := div_mono (a := a) (b := b) (L := L) hL hab
  have h2 := div_mono (a := a) (b := b) (L := M) (by omega) hab
  split
  · rename_i ha
    have := div_neg_len ha hL h
    omega
  · rename_i ha
    have := div_pos_len (a := a) (by omega) hL h
    omega
theorem max_ends {a b L M : Int} (hab : a ≤ b) (hL : 0 < L) (h : L ≤ M) : max (max (max (-(-a / L)) (-(-a / M))) (-(-b / L))) (-(-b / M)) = if b < 0 then -(-b / M) else -(-b / L) := by
  have h1 := div_mono (a := -b) (b := -a) (L := L) hL (by omega)
  have h2 := div_mono (a := -b) (b := -a) (L := M) (by omega) (by omega)
  split
  · rename_i hb
    have := div_pos_len (a := -b) (by omega) hL h
    omega
  · rename_i hb
    by_cases h0 : b = 0
    · subst h0
      simp only [Int.neg_zero, Int.zero_ediv] at *
      omega
    · have := div_neg_len (a := -b) (by omega) hL h
      omega
/-- Falls of a tread lie within, whatever it is and however long. -/
theorem slope_in {fall long : Sp} {x l : Int} (hx : fall.1 ≤ x ∧ x ≤ fall.2) (hl : long.1 ≤ l ∧ l ≤ long.2) (h0 : 0 < long.1) : (slopeR fall long).1 * l ≤ 1000 * x ∧ 1000 * x ≤ (slopeR fall long).2 * l := by
  have hl0 : 0 < l := by omega
  have lo : ∀ q : Int, q ≤ fall.1 * 1000 / l → q * l ≤ 1000 * x := fun q hq => by
    have h1 : fall.1 * 1000 / l * l ≤ fall.1 * 1000 := Int.ediv_mul_le _ (by omega)
    have h2 : q * l ≤ fall.1 * 1000 / l * l := Int.mul_le_mul_of_nonneg_right hq (by omega)
    omega
  have hi : ∀ q : Int, -q ≤ -(fall.2 * 1000) / l → 1000 * x ≤ q * l := fun q hq => by
    have h1 : -(fall.2 * 1000) / l * l ≤ -(fall.2 * 1000) := Int.ediv_mul_le _ (by omega)
    have h2 : -q * l ≤ -(fall.2 * 1000) / l * l := Int.mul_le_mul_of_nonneg_right hq (by omega)
    rw [Int.neg_mul] at h2
    omega
  constructor
  · refine lo _ ?_
    simp only [slopeR]
    split
    · exact div_neg_len (by omega) h0 hl.1
    · exact div_pos_len (by omega) hl0 hl.2
  · refine hi _ ?_
    simp only [slopeR]
    split
    · rw [Int.neg_neg]; exact div_pos_len (by omega) hl0 hl.2
    · rw [Int.neg_neg]
      by_cases hb : fall.2 = 0
      · rw [hb]; simp
      · exact div_neg_len (by omega) h0 hl.1
end Go.Proofs.YtoolblbdmmiahaaDoor
