/- Reading arguments, second part: truths, arrays. -/
import Derived.Test.YtccgplomnjpniaaEngR
namespace Go.Eng
open Go Go.RowKit
section
variable {P : Program} {Hh : Type} {encH : TypeId × Value → Hh} {w : World} {base : Nat} {spare : Nat → Bool} {held : Bool} {fuel : Nat} {t e : TypeId} {cs : List Value} {x : DataW Hh × List MemPlace}
theorem trod_bool (ht : P.underlying t = some .bool) (h : DataW.trod encH P w base spare held fuel t cs = some x) : ∃ b, cs = [.bool b] := by
  cases fuel with
  | zero => simp [DataW.trod] at h
  | succ fuel =>
    unfold DataW.trod at h
    rw [ht] at h
    simp only at h
    split at h <;> first | (cases h; done) | skip
    all_goals first | (exact ⟨_, rfl⟩) | (simp at *; done)
theorem trod_array {n : Nat} (ht : P.underlying t = some (.array n e)) (h : DataW.trod encH P w base spare held fuel t cs = some x) :
    cs.length = P.cellsOf t ∧ ∃ fuel', ∀ i, i < n → ∃ y, DataW.trod encH P w base spare held fuel' e ((cs.drop (i * P.cellsOf e)).take (P.cellsOf e)) = some y := by
  cases fuel with
  | zero => simp [DataW.trod] at h
  | succ fuel =>
    unfold DataW.trod at h
    rw [ht] at h
    simp only at h
    split at h
    · rename_i hl
      refine ⟨hl, fuel, fun i hi => ?_⟩
      cases hm : (List.range n).mapM fun i => DataW.trod encH P w base spare held fuel e ((cs.drop (i * P.cellsOf e)).take (P.cellsOf e)) with
      | none => rw [hm] at h; simp at h
      | some ys =>
        obtain ⟨y, hy, _⟩ := (mapM_opt hm).2 i i (by simp [hi])
        exact ⟨y, hy⟩
    · cases h
theorem cons1 {n : Nat} {l : List Value} (h : l.length = n + 1) : ∃ x l', l = x :: l' ∧ l'.length = n := by
  cases l with
  | nil => cases h
  | cons x l => exact ⟨x, l, rfl, by simpa using h⟩
end
end Go.Eng
