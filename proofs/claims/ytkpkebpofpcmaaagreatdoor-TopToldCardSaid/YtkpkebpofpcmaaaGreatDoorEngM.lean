/- The engine: slices that are made, of elements of several cells; drawn regions node by node; functions with first arguments. -/
import Derived.Test.YtkpkebpofpcmaaaGreatDoorEngP
import Derived.Test.YtkpkebpofpcmaaaGreatDoorEngW
namespace Go.Eng
open Go Go.RowKit
theorem made_two (u v : Value) (n : Nat) : madeCells #[u, v] (n * 2) = ((List.replicate n [u, v]).flatten).toArray := by
  apply Array.ext'
  unfold madeCells
  rw [Array.toList_map, Array.toList_range]
  induction n with
  | zero => rfl
  | succ n ih =>
    rw [List.replicate_succ', List.flatten_append, show (n + 1) * 2 = n * 2 + 1 + 1 by omega, List.range_succ, List.range_succ, List.map_append, List.map_append, ih]
    have e1 : n * 2 % 2 = 0 := by omega
    have e2 : (n * 2 + 1) % 2 = 1 := by omega
    simp [e1, e2]
section
variable {r : Option Nat} {P : Program} {Q : Exit → Act → World → Prop} {N : Nat} {D : List Deferred} {B : Nat} {w0 : World} {L : Env} {H : Hp} {ops : Array Oper} {rest : List Oper}
/-- 'make([]T, n)', elements of two cells. -/
theorem TL_makeSlice2 {d : Nat} {ty : TypeId} {pos : String} {aft : Array Edge} {t e : TypeId} {x y : Operand} {by_ : Nat} {u0 v0 : Value} {k1 k2 : IntKind} {m1 m2 : Int} {ag : Bool} (n : Nat) (hd : Nat.blt d N = true) [hu : SlcP P t e] [he : TyP P e 2 ag [u0, v0]] [hby : BytP P e by_]
    (hx : ev L x = some (.int k1 m1)) (hy : ev L y = some (.int k2 m2)) (h1 : m1 = (n : Int)) (h2 : m2 = (n : Int)) (hb : by_ * n ≤ 281474976710656) (hm : n ≤ 9223372036854775807)
    (k : ∀ b, B ≤ b → TL r P Q N D B w0 ((d, .slice (some ⟨b, 0, none⟩) n n) :: L) ((b, .cells (List.replicate n [u0, v0]).flatten e) :: H) ops rest) : TL r P Q N D B w0 L H ops (⟨some d, .makeSlice t x y, ty, pos, aft, none⟩ :: rest) :=
  TL_valw (by simp) hd (fun b : Nat => .slice (some ⟨b, 0, none⟩) n n) (fun b => (b, .cells (List.replicate n [u0, v0]).flatten e) :: H) (fun b => B ≤ b) (fun a w hf hs => ⟨w.heap.size, w.alloc (Blk.cells (List.replicate n [u0, v0]).flatten e).toObj, hs.hB, by
    obtain ⟨i, v, hi, hsz, hzz, hcc⟩ := he.info
    have hbi : i.bytes = by_ := by rw [← hby.b]; simp [Program.bytesOf, hi]
    subst h1 h2
    have hbb : (i.bytes : Int) * (n : Int) ≤ 281474976710656 := by
      rw [hbi]
      have : ((by_ * n : Nat) : Int) ≤ 281474976710656 := by omega
      rwa [Int.natCast_mul] at this
    have h := run_make (P := P) w t e i v hu.u hi hzz k1 k2 (n : Int) (n : Int) (by omega) (Int.le_refl _) hbb (by omega)
    rw [hsz, hcc, Int.toNat_natCast, made_two] at h
    exact ⟨by simp [execOp, hf.ev hx, hf.ev hy, h, Blk.toObj], hs.alloc (Blk.cells (List.replicate n [u0, v0]).flatten e)⟩⟩) k
end
end Go.Eng
