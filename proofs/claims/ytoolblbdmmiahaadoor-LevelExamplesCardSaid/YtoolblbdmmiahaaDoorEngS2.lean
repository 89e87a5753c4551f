/- The engine: strings that are known. -/
import Derived.Test.YtoolblbdmmiahaaDoorEngX
import Derived.KernelRfl
namespace Go.Eng
open Go Go.RowKit
set_option linter.unusedVariables false
section
variable {r : Option Nat} {P : Program} {Q : Exit → Act → World → Prop} {N : Nat} {D : List Deferred} {B : Nat} {w0 : World} {L : Env} {H : Hp} {ops : Array Oper} {rest : List Oper}
variable {d : Nat} {ty : TypeId} {pos : String} {aft : Array Edge}
theorem TL_sliceStr {t : TypeId} {x y1 y2 : Operand} {s u : ByteArray} {k1 k2 : IntKind} {m1 m2 : Int} (i j : Nat) (hd : Nat.blt d N = true) (ht : P.underlying t = some .string)
    (hx : ev L x = some (.string s)) (h1 : ev L y1 = some (.int k1 m1)) (h2 : ev L y2 = some (.int k2 m2)) (e1 : m1 = (i : Int)) (e2 : m2 = (j : Int)) (hij : i ≤ j) (hjn : Nat.ble j s.size = true) (hu : s.extract i j = u)
    (k : TL r P Q N D B w0 ((d, .string u) :: L) H ops rest) : TL r P Q N D B w0 L H ops (⟨some d, .slice t x (some y1) (some y2) none, ty, pos, aft, none⟩ :: rest) :=
  TL_val (by simp) hd _ (fun a w hf _ => by
    have hjn' : j ≤ s.size := Nat.le_of_ble_eq_true hjn
    have s1 := fun c => sliceBound_run (P := P) (code := c) (kd := k2) e2 hjn' w
    have s2 := fun c => sliceBound_run (P := P) (code := c) (kd := k1) e1 hij w
    simp [execOp, hf.ev hx, hf.ev h1, hf.ev h2, Instr.sliceAt, Instr.slice, run_underlying ht, Instr.sliceBounds, s1, s2, hu]) k
theorem TL_addStr {t t' : TypeId} {x y : Operand} {s1 s2 u : ByteArray} (hd : Nat.blt d N = true) (hx : ev L x = some (.string s1)) (hy : ev L y = some (.string s2)) (hu : s1 ++ s2 = u) (hb : Nat.ble (s1.size + s2.size) 9223372036854775807 = true)
    (k : TL r P Q N D B w0 ((d, .string u) :: L) H ops rest) : TL r P Q N D B w0 L H ops (⟨some d, .binOp .add t x y t', ty, pos, aft, none⟩ :: rest) :=
  TL_val (by simp) hd _ (fun a w hf _ => by
    have hb' := Nat.le_of_ble_eq_true hb
    simp [execOp, hf.ev hx, hf.ev hy, eqGuard, Go.binOp, Op.stringOp, hu]
    omega) k
end
end Go.Eng
