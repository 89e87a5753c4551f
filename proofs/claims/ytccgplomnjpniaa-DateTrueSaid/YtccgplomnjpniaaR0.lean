/- Readers of this seat's arguments. -/
import Derived.Test.YtccgplomnjpniaaE0
import Derived.Test.YtccgplomnjpniaaEngR2
import Derived.WalkKit
import Derived.ProofKit
import Derived.OpenShut
import Derived.ShutString
import Derived.ChangeOld
import Derived.Below
namespace Go.Proofs.Ytccgplomnjpniaa
open Go.ChangeShapes Go.WideShapes Go.ChangeAt Go.RowKit Go.Eng
set_option linter.unusedVariables false

theorem own : ownKnob Try.prog.godebug = none := by kernel_rfl
theorem laidOut : laidOutB Try.prog = true := by kernel_rfl

theorem c3of : Try.prog.cellsOf 3 = 1 := by kernel_rfl
theorem c23of : Try.prog.cellsOf 23 = 2 := by kernel_rfl
theorem c39of : Try.prog.cellsOf 39 = 3 := by kernel_rfl
theorem c24of : Try.prog.cellsOf 24 = 1 := by kernel_rfl
theorem c26of : Try.prog.cellsOf 26 = 11 := by kernel_rfl
instance rd3 : RdT Try.prog 3 encI 1 := ⟨c3of, fun _ => rfl, fun h => by
  obtain ⟨n, rfl, _⟩ := trod_int Try.underlying3 h
  exact ⟨n, rfl⟩⟩
instance rd23 : RdT Try.prog 23 encSp 2 := ⟨c23of, fun _ => rfl, fun h => by
  obtain ⟨hl, fuel, hf⟩ := trod_struct Try.underlying23 h
  rw [c23of] at hl
  rename_i cs _
  obtain ⟨u, cs, rfl, hl1⟩ := cons1 hl
  obtain ⟨v, cs, rfl, hl2⟩ := cons1 hl1
  obtain rfl := List.eq_nil_of_length_eq_zero hl2
  obtain ⟨y, h1⟩ := hf _ (List.Mem.head _)
  obtain ⟨y, h2⟩ := hf _ (List.Mem.tail _ (List.Mem.head _))
  obtain ⟨a, ha⟩ := rd3.rd h1
  obtain ⟨b, hb⟩ := rd3.rd h2
  simp only [c3of] at ha hb
  simp [encI] at ha hb
  exact ⟨(a, b), by rw [ha, hb]; rfl⟩⟩
instance rd39 : RdT Try.prog 39 encSn 3 := ⟨c39of, fun _ => rfl, fun h => by
  obtain ⟨hl, fuel, hf⟩ := trod_struct Try.underlying39 h
  rw [c39of] at hl
  rename_i cs _
  obtain ⟨u, cs, rfl, hl1⟩ := cons1 hl
  obtain ⟨v, cs, rfl, hl2⟩ := cons1 hl1
  obtain ⟨z, cs, rfl, hl3⟩ := cons1 hl2
  obtain rfl := List.eq_nil_of_length_eq_zero hl3
  obtain ⟨y, h1⟩ := hf _ (List.Mem.head _)
  obtain ⟨y, h2⟩ := hf _ (List.Mem.tail _ (List.Mem.head _))
  obtain ⟨a, ha⟩ := rd23.rd h1
  obtain ⟨b, hb⟩ := rd3.rd h2
  simp only [c3of, c23of] at ha hb
  simp [encI, encSp] at ha hb
  exact ⟨(a, b), by rw [ha.1, ha.2, hb]; rfl⟩⟩
theorem open26 {H : Type} {encH : TypeId × Value → H} {w : World} {base : Nat} {spare : Nat → Bool} {held : Bool} {fuel : Nat} {cs : List Value} {x : DataW H × List MemPlace} (h : DataW.trod encH Try.prog w base spare held fuel 26 cs = some x) :
    ∃ R ao c, cs = encRd R ao c ∧ R.seas.length ≤ 9223372036854775807 ∧ Sl w 3 encSn ao R.seas := by
  obtain ⟨hl, fuel, hf⟩ := trod_struct Try.underlying26 h
  rw [c26of] at hl
  obtain ⟨x1, cs, rfl, hl1⟩ := cons1 hl
  obtain ⟨x2, cs, rfl, hl2⟩ := cons1 hl1
  obtain ⟨x3, cs, rfl, hl3⟩ := cons1 hl2
  obtain ⟨x4, cs, rfl, hl4⟩ := cons1 hl3
  obtain ⟨x5, cs, rfl, hl5⟩ := cons1 hl4
  obtain ⟨x6, cs, rfl, hl6⟩ := cons1 hl5
  obtain ⟨x7, cs, rfl, hl7⟩ := cons1 hl6
  obtain ⟨x8, cs, rfl, hl8⟩ := cons1 hl7
  obtain ⟨x9, cs, rfl, hl9⟩ := cons1 hl8
  obtain ⟨x10, cs, rfl, hl10⟩ := cons1 hl9
  obtain ⟨x11, cs, rfl, hl11⟩ := cons1 hl10
  obtain rfl := List.eq_nil_of_length_eq_zero hl11
  obtain ⟨y, h1⟩ := hf _ (List.Mem.head _)
  obtain ⟨y, h2⟩ := hf _ (List.Mem.tail _ (List.Mem.head _))
  obtain ⟨y, h3⟩ := hf _ (List.Mem.tail _ (List.Mem.tail _ (List.Mem.head _)))
  obtain ⟨y, h4⟩ := hf _ (List.Mem.tail _ (List.Mem.tail _ (List.Mem.tail _ (List.Mem.head _))))
  obtain ⟨y, h5⟩ := hf _ (List.Mem.tail _ (List.Mem.tail _ (List.Mem.tail _ (List.Mem.tail _ (List.Mem.head _)))))
  obtain ⟨y, h6⟩ := hf _ (List.Mem.tail _ (List.Mem.tail _ (List.Mem.tail _ (List.Mem.tail _ (List.Mem.tail _ (List.Mem.head _))))))
  obtain ⟨a1, e1⟩ := rd23.rd h1
  obtain ⟨a2, e2⟩ := rd23.rd h2
  obtain ⟨a3, e3⟩ := rd23.rd h3
  obtain ⟨a4, e4⟩ := rd23.rd h4
  obtain ⟨a5, e5⟩ := rd23.rd h5
  simp only [c23of, c24of] at e1 e2 e3 e4 e5 h6
  simp [encSp] at e1 e2 e3 e4 e5 h6
  obtain ⟨ao, len, cap, e6⟩ := trod_slice_form Try.underlying24 h6
  obtain rfl : x11 = .slice ao len cap := by simpa using e6
  obtain ⟨g1, g2, g3, l, rfl, hsl⟩ := trod_slice (enc := encSn) (by omega) Try.underlying24 h6
  exact ⟨⟨a1, a2, a3, a4, a5, l⟩, ao, cap, by rw [e1.1, e1.2, e2.1, e2.2, e3.1, e3.2, e4.1, e4.2, e5.1, e5.2]; rfl, by simp only [maxLen] at g2; dsimp only; omega, hsl⟩


theorem c4of : Try.prog.cellsOf 4 = 1 := by kernel_rfl
theorem c41of : Try.prog.cellsOf 41 = 3 := by kernel_rfl
theorem c43of : Try.prog.cellsOf 43 = 10 := by kernel_rfl
theorem c44of : Try.prog.cellsOf 44 = 1 := by kernel_rfl
theorem c46of : Try.prog.cellsOf 46 = 4 := by kernel_rfl
theorem open43 {H : Type} {encH : TypeId × Value → H} {w : World} {base : Nat} {spare : Nat → Bool} {held : Bool} {fuel : Nat} {cs : List Value} {x : DataW H × List MemPlace} (h : DataW.trod encH Try.prog w base spare held fuel 43 cs = some x) :
    ∃ f, cs = encFt f := by
  obtain ⟨hl, fuel, hf⟩ := trod_struct Try.underlying43 h
  rw [c43of] at hl
  obtain ⟨x1, cs, rfl, hl1⟩ := cons1 hl
  obtain ⟨x2, cs, rfl, hl2⟩ := cons1 hl1
  obtain ⟨x3, cs, rfl, hl3⟩ := cons1 hl2
  obtain ⟨x4, cs, rfl, hl4⟩ := cons1 hl3
  obtain ⟨x5, cs, rfl, hl5⟩ := cons1 hl4
  obtain ⟨x6, cs, rfl, hl6⟩ := cons1 hl5
  obtain ⟨x7, cs, rfl, hl7⟩ := cons1 hl6
  obtain ⟨x8, cs, rfl, hl8⟩ := cons1 hl7
  obtain ⟨x9, cs, rfl, hl9⟩ := cons1 hl8
  obtain ⟨x10, cs, rfl, hl10⟩ := cons1 hl9
  obtain rfl := List.eq_nil_of_length_eq_zero hl10
  obtain ⟨y, h1⟩ := hf _ (List.Mem.head _)
  obtain ⟨y, h2⟩ := hf _ (List.Mem.tail _ (List.Mem.head _))
  obtain ⟨y, h3⟩ := hf _ (List.Mem.tail _ (List.Mem.tail _ (List.Mem.head _)))
  obtain ⟨y, h4⟩ := hf _ (List.Mem.tail _ (List.Mem.tail _ (List.Mem.tail _ (List.Mem.head _))))
  obtain ⟨y, h5⟩ := hf _ (List.Mem.tail _ (List.Mem.tail _ (List.Mem.tail _ (List.Mem.tail _ (List.Mem.head _)))))
  obtain ⟨y, h6⟩ := hf _ (List.Mem.tail _ (List.Mem.tail _ (List.Mem.tail _ (List.Mem.tail _ (List.Mem.tail _ (List.Mem.head _))))))
  obtain ⟨a1, e1⟩ := rd23.rd h1
  obtain ⟨a2, e2⟩ := rd23.rd h2
  obtain ⟨a3, e3⟩ := rd3.rd h3
  obtain ⟨a4, e4⟩ := rd3.rd h4
  obtain ⟨a5, e5⟩ := rd3.rd h5
  obtain ⟨_, fuel2, ha⟩ := trod_array Try.underlying41 h6
  obtain ⟨y, g1⟩ := ha 0 (by omega)
  obtain ⟨y, g2⟩ := ha 1 (by omega)
  obtain ⟨y, g3⟩ := ha 2 (by omega)
  obtain ⟨b1, f1⟩ := rd3.rd g1
  obtain ⟨b2, f2⟩ := rd3.rd g2
  obtain ⟨b3, f3⟩ := rd3.rd g3
  simp only [c23of, c3of, c41of] at e1 e2 e3 e4 e5 f1 f2 f3
  simp [encSp, encI] at e1 e2 e3 e4 e5 f1 f2 f3
  exact ⟨⟨a1, a2, a3, a4, a5, b1, b2, b3⟩, by rw [e1.1, e1.2, e2.1, e2.2, e3, e4, e5, f1, f2, f3]; rfl⟩
theorem open46 {H : Type} {encH : TypeId × Value → H} {w : World} {base : Nat} {spare : Nat → Bool} {held : Bool} {fuel : Nat} {cs : List Value} {x : DataW H × List MemPlace} (h : DataW.trod encH Try.prog w base spare held fuel 46 cs = some x) :
    ∃ b ao c, cs = encBn b ao c ∧ b.ripe.length ≤ 9223372036854775807 ∧ Sl w 2 encSp ao b.ripe := by
  obtain ⟨hl, fuel, hf⟩ := trod_struct Try.underlying46 h
  rw [c46of] at hl
  obtain ⟨x1, cs, rfl, hl1⟩ := cons1 hl
  obtain ⟨x2, cs, rfl, hl2⟩ := cons1 hl1
  obtain ⟨x3, cs, rfl, hl3⟩ := cons1 hl2
  obtain ⟨x4, cs, rfl, hl4⟩ := cons1 hl3
  obtain rfl := List.eq_nil_of_length_eq_zero hl4
  obtain ⟨y, h1⟩ := hf _ (List.Mem.head _)
  obtain ⟨y, h2⟩ := hf _ (List.Mem.tail _ (List.Mem.head _))
  obtain ⟨y, h3⟩ := hf _ (List.Mem.tail _ (List.Mem.tail _ (List.Mem.head _)))
  obtain ⟨a2, e2⟩ := rd23.rd h2
  obtain ⟨a3, e3⟩ := trod_bool Try.underlying4 h3
  simp only [c23of, c4of, c44of] at h1 e2 e3
  simp [encSp] at h1 e2 e3
  obtain ⟨ao, len, cap, e1⟩ := trod_slice_form Try.underlying44 h1
  obtain rfl : x1 = .slice ao len cap := by simpa using e1
  obtain ⟨g1, g2, g3, l, rfl, hsl⟩ := trod_slice (enc := encSp) (by omega) Try.underlying44 h1
  exact ⟨⟨l, a2, a3⟩, ao, cap, by rw [e2.1, e2.2, e3]; rfl, by simp only [maxLen] at g2; dsimp only; omega, hsl⟩
end Go.Proofs.Ytccgplomnjpniaa
