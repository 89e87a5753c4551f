/- Readers of arguments: numbers of 32 bits. -/
import Derived.Test.YtccgplomnjpniaaR0
import Derived.Test.YtccgplomnjpniaaE28
namespace Go.Proofs.Ytccgplomnjpniaa
open Go Go.Eng Go.RowKit Go.Proofs
theorem c79of : Try.prog.cellsOf 79 = 1 := by kernel_rfl
theorem wf_u32 {n : Int} (h : (Lit.int .u32 n).wf = true) : 0 ≤ n ∧ n ≤ 4294967295 := by
  have e1 : IntKind.u32.min = 0 := by kernel_rfl
  have e2 : IntKind.u32.max = 4294967295 := by kernel_rfl
  simpa [Lit.wf, e1, e2] using h
theorem wf_u16 {n : Int} (h : (Lit.int .u16 n).wf = true) : 0 ≤ n ∧ n ≤ 65535 := by
  have e1 : IntKind.u16.min = 0 := by kernel_rfl
  have e2 : IntKind.u16.max = 65535 := by kernel_rfl
  simpa [Lit.wf, e1, e2] using h
theorem wf_u8 {n : Int} (h : (Lit.int .u8 n).wf = true) : 0 ≤ n ∧ n ≤ 255 := by
  have e1 : IntKind.u8.min = 0 := by kernel_rfl
  have e2 : IntKind.u8.max = 255 := by kernel_rfl
  simpa [Lit.wf, e1, e2] using h
instance rd79 : RdT Try.prog 79 encU 1 := ⟨c79of, fun _ => rfl, fun h => by
  obtain ⟨n, rfl, hw⟩ := trod_int Try.underlying79 h
  exact ⟨⟨n, wf_u32 hw⟩, rfl⟩⟩
end Go.Proofs.Ytccgplomnjpniaa
