/- The engine, part 15: fields of values, shifts, masks, slices held against nil. -/
import Derived.Test.YtccgplomnjpniaaEng14
import Derived.Lib.LazyBuf
import Derived.Laws.BitsAllLaws
namespace Go.Eng
open Go Go.RowKit
set_option linter.unusedVariables false

/-- Field f of a value of struct type s: its place, its cells, whether they are a value of several. -/
class FldV (P : Program) (s f : Nat) (off sz : outParam Nat) (ag : outParam Bool) : Prop where
  info : ∃ (fs : Array Field) (fd : Field) (z : List Value), P.underlying s = some (.struct fs) ∧ fs[f]? = some fd ∧ fd.offset = off ∧ TyP P fd.type sz ag z
theorem FldV.mk' {P : Program} {s f off sz : Nat} {ag : Bool} {fs : Array Field} {fd : Field} {z : List Value} (hu : P.underlying s = some (.struct fs)) (hf : fs[f]? = some fd) (ho : fd.offset = off) (ht : TyP P fd.type sz ag z) : FldV P s f off sz ag := ⟨fs, fd, z, hu, hf, ho, ht⟩
section
variable {r : Option Nat} {P : Program} {Q : Exit → Act → World → Prop} {N : Nat} {D : List Deferred} {B : Nat} {w0 : World} {L : Env} {H : Hp} {ops : Array Oper} {rest : List Oper}
variable {d : Nat} {ty : TypeId} {pos : String} {aft : Array Edge}
theorem TL_field1 {s f off sz : Nat} {x : Operand} {vs : List Value} {v : Value} (hd : Nat.blt d N = true) [hF : FldV P s f off sz false] (hx : ev L x = some (.agg vs.toArray)) (hv : takeN 1 (dropN off vs) = some [v])
    (k : TL r P Q N D B w0 ((d, v) :: L) H ops rest) : TL r P Q N D B w0 L H ops (⟨some d, .field s x f, ty, pos, aft, none⟩ :: rest) :=
  TL_val (by simp) hd _ (fun a w hf _ => by
    obtain ⟨fs, fd, z, hu, hfd, ho, ht⟩ := hF.info
    have h1 := takeN_some hv
    rw [dropN_eq] at h1
    have h2 : vs[off]? = some v := by
      have := congrArg (·[0]?) h1.1
      simpa [List.getElem?_take] using this.symm
    subst ho
    simp [execOp, hf.ev hx, Instr.field, run_underlying hu, hfd, asAgg, part, ht.ag w, h2]) k
theorem TL_fieldn {s f off sz : Nat} {x : Operand} {vs us : List Value} (hd : Nat.blt d N = true) [hF : FldV P s f off sz true] (hx : ev L x = some (.agg vs.toArray)) (hv : takeN sz (dropN off vs) = some us)
    (k : TL r P Q N D B w0 ((d, .agg us.toArray) :: L) H ops rest) : TL r P Q N D B w0 L H ops (⟨some d, .field s x f, ty, pos, aft, none⟩ :: rest) :=
  TL_val (by simp) hd _ (fun a w hf _ => by
    obtain ⟨fs, fd, z, hu, hfd, ho, ht⟩ := hF.info
    obtain ⟨i, v0, hi, hsz, _, _⟩ := ht.info
    have h1 := takeN_some hv
    rw [dropN_eq] at h1
    have hsz' : (Go.sizeOf fd.type).run P w = .ok sz w := by rw [run_sizeOf w hi]; simp [Program.cellsOf, hi, hsz]
    subst ho
    have e : (vs.toArray.extract fd.offset (fd.offset + sz)) = us.toArray := by
      apply Array.ext'
      rw [Array.toList_extract]
      simp [List.extract, h1.1]
    simp [execOp, hf.ev hx, Instr.field, run_underlying hu, hfd, asAgg, part, ht.ag w, hsz', h1.1.symm]) k
/-- 'x << n' that does not run over. -/
theorem TL_shl {t t' : TypeId} {x y : Operand} {m : Int} {n : Nat} (hd : Nat.blt d N = true) (hx : ev L x = some (.int .i64 m)) (hy : ev L y = some (.int .i64 (n : Int))) (hn : n ≤ 62) (hr : -9223372036854775808 ≤ m * 2 ^ n ∧ m * 2 ^ n ≤ 9223372036854775807)
    (k : TL r P Q N D B w0 ((d, .int .i64 (m * 2 ^ n)) :: L) H ops rest) : TL r P Q N D B w0 L H ops (⟨some d, .binOp .shl t x y t', ty, pos, aft, none⟩ :: rest) :=
  TL_val (by simp) hd _ (fun a w hf _ => by
    have h1 : min n IntKind.i64.bits = n := by simp [IntKind.bits]; omega
    have h2 : ¬ ((n : Int) < 0) := by omega
    simp [execOp, hf.ev hx, hf.ev hy, eqGuard, binOp, Op.shift, h1, h2, wrap_i64_of hr]) k
theorem TL_shr {t t' : TypeId} {x y : Operand} {m n : Nat} (hd : Nat.blt d N = true) (hx : ev L x = some (.int .i64 (m : Int))) (hy : ev L y = some (.int .i64 (n : Int))) (hn : n ≤ 62)
    (k : TL r P Q N D B w0 ((d, .int .i64 ((m / 2 ^ n : Nat) : Int)) :: L) H ops rest) : TL r P Q N D B w0 L H ops (⟨some d, .binOp .shr t x y t', ty, pos, aft, none⟩ :: rest) :=
  TL_val (by simp) hd _ (fun a w hf _ => by
    have h1 : min n IntKind.i64.bits = n := by simp [IntKind.bits]; omega
    have h2 : ¬ ((n : Int) < 0) := by omega
    have h3 : Int.fdiv (m : Int) (2 ^ n) = ((m / 2 ^ n : Nat) : Int) := by
      rw [Int.fdiv_eq_ediv_of_nonneg _ (by exact Int.le_of_lt (Int.pow_pos (by omega)))]
      simp
    simp [execOp, hf.ev hx, hf.ev hy, eqGuard, binOp, Op.shift, h1, h2, h3]) k
theorem TL_and1 {t t' : TypeId} {x y : Operand} {m : Nat} (hd : Nat.blt d N = true) (hx : ev L x = some (.int .i64 (m : Int))) (hy : ev L y = some (.int .i64 1)) (hm : m ≤ 9223372036854775807)
    (k : TL r P Q N D B w0 ((d, .int .i64 ((m % 2 : Nat) : Int)) :: L) H ops rest) : TL r P Q N D B w0 L H ops (⟨some d, .binOp .and t x y t', ty, pos, aft, none⟩ :: rest) :=
  TL_val (by simp) hd _ (fun a w hf _ => by
    have h1 : (BitVec.ofInt 64 (m : Int) &&& BitVec.ofInt 64 1).toNat = m % 2 := by
      rw [BitVec.toNat_and]
      have e1 : (BitVec.ofInt 64 (m : Int)).toNat = m := by
        rw [BitVec.toNat_ofInt]; omega
      have e2 : (BitVec.ofInt 64 1).toNat = 1 := by decide
      rw [e1, e2]
      exact Nat.and_two_pow_sub_one_eq_mod m 1
    have h2 : IntKind.i64.wrap ((m % 2 : Nat) : Int) = ((m % 2 : Nat) : Int) := wrap_i64_of (by omega)
    have h1b : (BitVec.ofNat 64 m &&& 1#64).toNat = m % 2 := by
      rw [← h1]; simp
    have h3 : IntKind.i64.wrap ((m : Int) % 2) = (m : Int) % 2 := by simpa using h2
    simp only [execOp, hf.ev hx, hf.ev hy, eqGuard, binOp, Op.intBits, IntKind.bits, h1, h2, Sem.run_bind, Sem.run_pure, Result.andThen]
    simp
    show IntKind.i64.wrap (((BitVec.ofNat 64 m &&& 1#64).toNat : Nat) : Int) = (m : Int) % 2
    rw [h1b]; simpa using h2) k
/-- A slice held against nil. -/
theorem TL_eql_slnil {t t' e : TypeId} {x : Operand} {ao : Option Addr} {n c : Nat} {b : Bool} (hd : Nat.blt d N = true) [hu : SlcP P t e] (hx : ev L x = some (.slice ao n c)) (hb : ao.isNone = b)
    (k : TL r P Q N D B w0 ((d, .bool b) :: L) H ops rest) : TL r P Q N D B w0 L H ops (⟨some d, .binOp .eql t x (.const (.slice none 0 0)) t', ty, pos, aft, none⟩ :: rest) :=
  TL_val (by simp) hd _ (fun a w hf _ => by
    subst hb
    have h := run_equalIn_slice_nil (P := P) w 9999 t e ao n c hu.u
    have hc : a.eval (.const (.slice none 0 0)) = .slice none 0 0 := rfl
    simp [execOp, hf.ev hx, hc, eqGuard, binOp, Op.equal, Op.maxDepth, h]) k
/-- 's[:n:m]'. -/
theorem TL_slice3 {t e : TypeId} {x y2 y3 : Operand} {sz : Nat} {ag : Bool} {z : List Value} {ao : Option Addr} {n c : Nat} {k2 k3 : IntKind} {m2 m3 : Int} (i j : Nat) (hd : Nat.blt d N = true) [hu : SlcP P t e] [he : TyP P e sz ag z]
    (hx : ev L x = some (.slice ao n c)) (h2 : ev L y2 = some (.int k2 m2)) (h3 : ev L y3 = some (.int k3 m3)) (e2 : m2 = (i : Int)) (e3 : m3 = (j : Int)) (hij : i ≤ j) (hjc : j ≤ c)
    (k : TL r P Q N D B w0 ((d, .slice (if j = 0 then ao else ao.map (·.add 0)) i j) :: L) H ops rest) : TL r P Q N D B w0 L H ops (⟨some d, .slice t x none (some y2) (some y3), ty, pos, aft, none⟩ :: rest) :=
  TL_val (by simp) hd _ (fun a w hf _ => by
    obtain ⟨q, _, hj, hsz, _, _⟩ := he.info
    have g1 : (Go.sizeOf e).run P w = .ok sz w := by rw [run_sizeOf w hj]; simp [Program.cellsOf, hj, hsz]
    have s3 := fun cd => sliceBound_run (P := P) (code := cd) (kd := k3) e3 hjc w
    have s2 := fun cd => sliceBound_run (P := P) (code := cd) (kd := k2) e2 hij w
    simp [execOp, hf.ev hx, hf.ev h2, hf.ev h3, Instr.sliceAt, Instr.slice, run_underlying hu.u, Instr.sliceBounds, g1, s2, s3]) k
end
end Go.Eng
