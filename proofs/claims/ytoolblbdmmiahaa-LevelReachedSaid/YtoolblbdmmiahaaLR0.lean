/- Readers of this seat's arguments. -/
import Derived.Test.YtoolblbdmmiahaaL2
import Derived.Test.YtoolblbdmmiahaaEngR2
import Derived.WalkKit
import Derived.ProofKit
import Derived.OpenShut
import Derived.ShutString
import Derived.ChangeOld
import Derived.Below
namespace Go.Proofs.Ytoolblbdmmiahaa
open Go.ChangeShapes Go.WideShapes Go.ChangeAt Go.RowKit Go.Eng
set_option linter.unusedVariables false

theorem own : ownKnob Try.prog.godebug = none := by kernel_rfl
theorem laidOut : laidOutB Try.prog = true := by kernel_rfl

theorem c3of : Try.prog.cellsOf 3 = 1 := by kernel_rfl
theorem c22of : Try.prog.cellsOf 22 = 1 := by kernel_rfl
theorem c23of : Try.prog.cellsOf 23 = 1 := by kernel_rfl
theorem c24of : Try.prog.cellsOf 24 = 1 := by kernel_rfl
theorem c26of : Try.prog.cellsOf 26 = 4 := by kernel_rfl
theorem c36of : Try.prog.cellsOf 36 = 2 := by kernel_rfl
theorem c72of : Try.prog.cellsOf 72 = 4 := by kernel_rfl
theorem c75of : Try.prog.cellsOf 75 = 3 := by kernel_rfl
theorem c78of : Try.prog.cellsOf 78 = 4 := by kernel_rfl
theorem wf_u8 {n : Int} (h : (Lit.int .u8 n).wf = true) : 0 ≤ n ∧ n ≤ 255 := by
  have e1 : IntKind.u8.min = 0 := by kernel_rfl
  have e2 : IntKind.u8.max = 255 := by kernel_rfl
  simpa [Lit.wf, e1, e2] using h
instance rd3 : RdT Try.prog 3 encI 1 := ⟨c3of, fun _ => rfl, fun h => by
  obtain ⟨n, rfl, _⟩ := trod_int Try.underlying3 h
  exact ⟨n, rfl⟩⟩
instance rd36 : RdT Try.prog 36 encSp 2 := ⟨c36of, fun _ => rfl, fun h => by
  obtain ⟨hl, fuel, hf⟩ := trod_struct Try.underlying36 h
  rw [c36of] at hl
  rename_i cs _
  obtain ⟨u, cs, rfl, hl1⟩ := cons1 hl
  obtain ⟨v, cs, rfl, hl2⟩ := cons1 hl1
  obtain rfl := List.eq_nil_of_length_eq_zero hl2
  obtain ⟨y, h1⟩ := hf _ (List.Mem.head _)
  obtain ⟨y, h2⟩ := hf _ (List.Mem.tail _ (List.Mem.head _))
  obtain ⟨a, ha⟩ := rd3.rd h1
  obtain ⟨b, hb⟩ := rd3.rd h2
  simp only [c3of] at ha hb
  simp [encI] at ha hb
  exact ⟨(a, b), by rw [ha, hb]; rfl⟩⟩
instance rd75 : RdT Try.prog 75 encMk 3 := ⟨c75of, fun _ => rfl, fun h => by
  obtain ⟨hl, fuel, hf⟩ := trod_struct Try.underlying75 h
  rw [c75of] at hl
  rename_i cs _
  obtain ⟨u, cs, rfl, hl1⟩ := cons1 hl
  obtain ⟨v, cs, rfl, hl2⟩ := cons1 hl1
  obtain ⟨z, cs, rfl, hl3⟩ := cons1 hl2
  obtain rfl := List.eq_nil_of_length_eq_zero hl3
  obtain ⟨y, h1⟩ := hf _ (List.Mem.head _)
  obtain ⟨y, h2⟩ := hf _ (List.Mem.tail _ (List.Mem.head _))
  obtain ⟨a, ha⟩ := rd3.rd h1
  obtain ⟨b, hb⟩ := rd36.rd h2
  simp only [c3of, c36of] at ha hb
  simp [encI, encSp] at ha hb
  exact ⟨⟨a, b⟩, by rw [ha, hb.1, hb.2]; rfl⟩⟩
instance rd78 : RdT Try.prog 78 encSh 4 := ⟨c78of, fun _ => rfl, fun h => by
  obtain ⟨hl, fuel, hf⟩ := trod_struct Try.underlying78 h
  rw [c78of] at hl
  rename_i cs _
  obtain ⟨u, cs, rfl, hl1⟩ := cons1 hl
  obtain ⟨v, cs, rfl, hl2⟩ := cons1 hl1
  obtain ⟨z, cs, rfl, hl3⟩ := cons1 hl2
  obtain ⟨z', cs, rfl, hl4⟩ := cons1 hl3
  obtain rfl := List.eq_nil_of_length_eq_zero hl4
  obtain ⟨y, h1⟩ := hf _ (List.Mem.head _)
  obtain ⟨y, h2⟩ := hf _ (List.Mem.tail _ (List.Mem.head _))
  obtain ⟨y, h3⟩ := hf _ (List.Mem.tail _ (List.Mem.tail _ (List.Mem.head _)))
  obtain ⟨a, ha⟩ := rd3.rd h1
  obtain ⟨b, hb⟩ := rd3.rd h2
  obtain ⟨c, hc⟩ := rd36.rd h3
  simp only [c3of, c36of] at ha hb hc
  simp [encI, encSp] at ha hb hc
  exact ⟨⟨a, b, c⟩, by rw [ha, hb, hc.1, hc.2]; rfl⟩⟩
instance rd72 : RdT Try.prog 72 encTh 4 := ⟨c72of, fun _ => rfl, fun h => by
  obtain ⟨hl, fuel, hf⟩ := trod_struct Try.underlying72 h
  rw [c72of] at hl
  rename_i cs _
  obtain ⟨u, cs, rfl, hl1⟩ := cons1 hl
  obtain ⟨v, cs, rfl, hl2⟩ := cons1 hl1
  obtain ⟨z, cs, rfl, hl3⟩ := cons1 hl2
  obtain ⟨z', cs, rfl, hl4⟩ := cons1 hl3
  obtain rfl := List.eq_nil_of_length_eq_zero hl4
  obtain ⟨y, h1⟩ := hf _ (List.Mem.head _)
  obtain ⟨y, h2⟩ := hf _ (List.Mem.tail _ (List.Mem.head _))
  obtain ⟨y, h3⟩ := hf _ (List.Mem.tail _ (List.Mem.tail _ (List.Mem.head _)))
  obtain ⟨a, ha⟩ := rd3.rd h1
  obtain ⟨b, hb⟩ := rd3.rd h2
  obtain ⟨c, hc⟩ := rd36.rd h3
  simp only [c3of, c36of] at ha hb hc
  simp [encI, encSp] at ha hb hc
  exact ⟨⟨a, b, c⟩, by rw [ha, hb, hc.1, hc.2]; rfl⟩⟩
theorem open78 {H : Type} {encH : TypeId × Value → H} {w : World} {base : Nat} {spare : Nat → Bool} {held : Bool} {fuel : Nat} {cs : List Value} {x : DataW H × List MemPlace} (h : DataW.trod encH Try.prog w base spare held fuel 78 cs = some x) : ∃ s, cs = encSh s := by
  exact rd78.rd h
theorem open26 {H : Type} {encH : TypeId × Value → H} {w : World} {base : Nat} {spare : Nat → Bool} {held : Bool} {fuel : Nat} {cs : List Value} {x : DataW H × List MemPlace} (h : DataW.trod encH Try.prog w base spare held fuel 26 cs = some x) :
    ∃ S p, cs = encSv S p ∧ S.shots.length ≤ 9223372036854775807 ∧ S.marks.length ≤ 9223372036854775807 ∧ S.thr.length ≤ 9223372036854775807 ∧ SvAt w S p := by
  obtain ⟨hl, fuel, hf⟩ := trod_struct Try.underlying26 h
  rw [c26of] at hl
  obtain ⟨x1, cs, rfl, hl1⟩ := cons1 hl
  obtain ⟨x2, cs, rfl, hl2⟩ := cons1 hl1
  obtain ⟨x3, cs, rfl, hl3⟩ := cons1 hl2
  obtain ⟨x4, cs, rfl, hl4⟩ := cons1 hl3
  obtain rfl := List.eq_nil_of_length_eq_zero hl4
  obtain ⟨y, h1⟩ := hf _ (List.Mem.head _)
  obtain ⟨y, h2⟩ := hf _ (List.Mem.tail _ (List.Mem.head _))
  obtain ⟨y, h3⟩ := hf _ (List.Mem.tail _ (List.Mem.tail _ (List.Mem.head _)))
  obtain ⟨y, h4⟩ := hf _ (List.Mem.tail _ (List.Mem.tail _ (List.Mem.tail _ (List.Mem.head _))))
  obtain ⟨a, e1⟩ := rd3.rd h1
  simp only [c3of, c22of, c23of, c24of] at e1 h2 h3 h4
  simp [encI] at e1 h2 h3 h4
  obtain ⟨a1, len1, k1, e2⟩ := trod_slice_form Try.underlying22 h2
  obtain rfl : x2 = .slice a1 len1 k1 := by simpa using e2
  obtain ⟨g1, g2, g3, l1, rfl, hs1⟩ := trod_slice (enc := encSh) (by omega) Try.underlying22 h2
  obtain ⟨a2, len2, k2, e3⟩ := trod_slice_form Try.underlying23 h3
  obtain rfl : x3 = .slice a2 len2 k2 := by simpa using e3
  obtain ⟨f1, f2, f3, l2, rfl, hs2⟩ := trod_slice (enc := encMk) (by omega) Try.underlying23 h3
  obtain ⟨a3, len3, k3, e4⟩ := trod_slice_form Try.underlying24 h4
  obtain rfl : x4 = .slice a3 len3 k3 := by simpa using e4
  obtain ⟨d1, d2, d3, l3, rfl, hs3⟩ := trod_slice (enc := encTh) (by omega) Try.underlying24 h4
  simp only [maxLen] at g2 f2 d2
  exact ⟨⟨a, l1, l2, l3⟩, ⟨a1, k1, a2, k2, a3, k3⟩, by rw [e1]; rfl, by dsimp only; omega, by dsimp only; omega, by dsimp only; omega, ⟨hs1, hs2, hs3⟩⟩
end Go.Proofs.Ytoolblbdmmiahaa
