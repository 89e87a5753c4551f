/- Readers of nets. -/
import Derived.Test.YtkpkebpofpcmaaaGreatDoorRT0
namespace Go.Proofs.YtkpkebpofpcmaaaGreatDoor
open Go.ChangeShapes Go.WideShapes Go.ChangeAt Go.RowKit Go.Eng
set_option linter.unusedVariables false
theorem c54of : Tryz.prog.cellsOf 54 = 1 := by kernel_rfl
theorem c55of : Tryz.prog.cellsOf 55 = 1 := by kernel_rfl
theorem c57of : Tryz.prog.cellsOf 57 = 4 := by kernel_rfl
theorem c87of : Tryz.prog.cellsOf 87 = 5 := by kernel_rfl
instance rd87 : RdT Tryz.prog 87 encCn 5 := ⟨c87of, fun _ => rfl, fun h => by
  rename_i cs _
  obtain ⟨hl0, fuel, hf⟩ := trod_struct Tryz.underlying87 h
  rw [c87of] at hl0
  obtain ⟨x1, cs, rfl, hl1⟩ := cons1 hl0
  obtain ⟨x2, cs, rfl, hl2⟩ := cons1 hl1
  obtain ⟨x3, cs, rfl, hl3⟩ := cons1 hl2
  obtain ⟨x4, cs, rfl, hl4⟩ := cons1 hl3
  obtain ⟨x5, cs, rfl, hl5⟩ := cons1 hl4
  obtain rfl := List.eq_nil_of_length_eq_zero hl5
  obtain ⟨y, h1⟩ := hf _ (List.Mem.head _)
  obtain ⟨y, h2⟩ := hf _ (List.Mem.tail _ (List.Mem.head _))
  obtain ⟨y, h3⟩ := hf _ (List.Mem.tail _ (List.Mem.tail _ (List.Mem.head _)))
  obtain ⟨a1, e1⟩ := rd3.rd h1
  simp only [c25of, c3of] at e1
  simp [encI] at e1
  subst e1
  obtain ⟨a2, e2⟩ := rd25.rd h2
  simp only [c25of, c3of] at e2
  simp [encSp] at e2
  obtain ⟨rfl, rfl⟩ := e2
  obtain ⟨a3, e3⟩ := rd25.rd h3
  simp only [c25of, c3of] at e3
  simp [encSp] at e3
  obtain ⟨rfl, rfl⟩ := e3
  exact ⟨⟨a1, a2, a3⟩, rfl⟩⟩
theorem open57 {H : Type} {encH : TypeId × Value → H} {w : World} {base : Nat} {spare : Nat → Bool} {held : Bool} {fuel : Nat} {cs : List Value} {x : DataW H × List MemPlace} (h : DataW.trod encH Tryz.prog w base spare held fuel 57 cs = some x) : ∃ n : Nt, cs = encNt n ∧ Sl w 5 encCn n.cao n.canals ∧ Sl w 1 encI n.fao n.fields := by
  obtain ⟨hl0, fuel, hf⟩ := trod_struct Tryz.underlying57 h
  rw [c57of] at hl0
  obtain ⟨x1, cs, rfl, hl1⟩ := cons1 hl0
  obtain ⟨x2, cs, rfl, hl2⟩ := cons1 hl1
  obtain ⟨x3, cs, rfl, hl3⟩ := cons1 hl2
  obtain ⟨x4, cs, rfl, hl4⟩ := cons1 hl3
  obtain rfl := List.eq_nil_of_length_eq_zero hl4
  obtain ⟨y, h1⟩ := hf _ (List.Mem.head _)
  obtain ⟨y, h2⟩ := hf _ (List.Mem.tail _ (List.Mem.head _))
  obtain ⟨y, h3⟩ := hf _ (List.Mem.tail _ (List.Mem.tail _ (List.Mem.head _)))
  obtain ⟨y, h4⟩ := hf _ (List.Mem.tail _ (List.Mem.tail _ (List.Mem.tail _ (List.Mem.head _))))
  simp only [c3of, c54of, c55of] at h1
  simp at h1
  obtain ⟨ao1, len1, cap1, e1⟩ := trod_slice_form Tryz.underlying54 h1
  simp at e1
  subst e1
  simp only [c3of, c54of, c55of] at h2
  simp at h2
  obtain ⟨ao2, len2, cap2, e2⟩ := trod_slice_form Tryz.underlying55 h2
  simp at e2
  subst e2
  obtain ⟨a3, e3⟩ := rd3.rd h3
  simp only [c3of, c54of, c55of] at e3
  simp [encI] at e3
  subst e3
  obtain ⟨a4, e4⟩ := rd3.rd h4
  simp only [c3of, c54of, c55of] at e4
  simp [encI] at e4
  subst e4
  obtain ⟨g1, g2, g3, l1, rfl, hs1⟩ := trod_slice (enc := encCn) (by omega) Tryz.underlying54 h1
  obtain ⟨f1, f2, f3, l2, rfl, hs2⟩ := trod_slice (enc := encI) (by omega) Tryz.underlying55 h2
  exact ⟨⟨l1, l2, a3, a4, ao1, cap1, ao2, cap2⟩, rfl, hs1, hs2⟩
end Go.Proofs.YtkpkebpofpcmaaaGreatDoor
