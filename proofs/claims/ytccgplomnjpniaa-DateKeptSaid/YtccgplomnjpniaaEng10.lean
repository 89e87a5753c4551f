/- The engine, part 10: arrays, and slices of arrays and of slices. -/
import Derived.Test.YtccgplomnjpniaaEng9
import Derived.Laws.Bits64
namespace Go.Eng
open Go Go.RowKit
set_option linter.unusedVariables false
set_option linter.unusedSimpArgs false

/-- Type t is an array of n of e. -/
class AryP (P : Program) (t : TypeId) (n : outParam Nat) (e : outParam TypeId) : Prop where
  u : P.underlying t = some (.array n e)

section
variable {r : Option Nat} {P : Program} {Q : Exit → Act → World → Prop} {N : Nat} {D : List Deferred} {B : Nat} {w0 : World} {L : Env} {H : Hp} {ops : Array Oper} {rest : List Oper}
variable {d : Nat} {ty : TypeId} {pos : String} {aft : Array Edge}

/-- The address of element i of an array. -/
theorem TL_indexAddrA {t e : TypeId} {x y : Operand} {n sz : Nat} {ag : Bool} {z : List Value} {b o : Nat} {kd : IntKind} {m : Int} (i : Nat) (hd : Nat.blt d N = true) [hu : AryP P t n e] [he : TyP P e sz ag z]
    (hx : ev L x = some (.pointer (some ⟨b, o, none⟩))) (hy : ev L y = some (.int kd m)) (hm : m = (i : Int)) (hi : i < n)
    (k : TL r P Q N D B w0 ((d, .pointer (some ⟨b, o + i * sz, none⟩)) :: L) H ops rest) : TL r P Q N D B w0 L H ops (⟨some d, .indexAddr t x y, ty, pos, aft, none⟩ :: rest) :=
  TL_val (by simp) hd _ (fun a w hf _ => by
    obtain ⟨j, _, hj, hsz, _, _⟩ := he.info
    subst hm
    simp [execOp, hf.ev hx, hf.ev hy, Instr.indexAt, run_underlying hu.u, asIntOf, sizeOf, typeInfo, hj, hsz, add_plain', Instr.sureAddr, hi]) k
/-- Element i of an array that is a value, one cell each. -/
theorem TL_indexA {t e : TypeId} {x y : Operand} {n : Nat} {z : List Value} {vs : List Value} {v : Value} {kd : IntKind} {m : Int} (i : Nat) (hd : Nat.blt d N = true) [hu : AryP P t n e] [he : TyP P e 1 false z]
    (hx : ev L x = some (.agg vs.toArray)) (hy : ev L y = some (.int kd m)) (hm : m = (i : Int)) (hi : i < n) (hv : vs[i]? = some v)
    (k : TL r P Q N D B w0 ((d, v) :: L) H ops rest) : TL r P Q N D B w0 L H ops (⟨some d, .index t x y, ty, pos, aft, none⟩ :: rest) :=
  TL_val (by simp) hd _ (fun a w hf _ => by
    obtain ⟨j, _, hj, hsz, _, _⟩ := he.info
    subst hm
    have h1 : (Go.sizeOf e).run P w = .ok 1 w := by rw [run_sizeOf w hj]; simp [Program.cellsOf, hj, hsz]
    have h2 : (Instr.index t (.agg vs.toArray) (.int kd (i : Int))).run P w = .ok v w := by
      simp [Instr.index, run_underlying hu.u, asIntOf, hi, h1, part, he.ag w, hv]
    simp [execOp, hf.ev hx, hf.ev hy, h2]) k
/-- A whole array as a slice. -/
theorem TL_sliceA {t e : TypeId} {x : Operand} {n : Nat} {sz : Nat} {ag : Bool} {z : List Value} {b o : Nat} (hd : Nat.blt d N = true) [hu : AryP P t n e] [he : TyP P e sz ag z] (hn : 0 < n) (hx : ev L x = some (.pointer (some ⟨b, o, none⟩)))
    (k : TL r P Q N D B w0 ((d, .slice (some ⟨b, o, none⟩) n n) :: L) H ops rest) : TL r P Q N D B w0 L H ops (⟨some d, .slice t x none none none, ty, pos, aft, none⟩ :: rest) :=
  TL_val (by simp) hd _ (fun a w hf _ => by
    obtain ⟨j, _, hj, hsz, _, _⟩ := he.info
    have h1 : (Go.sizeOf e).run P w = .ok sz w := by rw [run_sizeOf w hj]; simp [Program.cellsOf, hj, hsz]
    have hne : n ≠ 0 := by omega
    simp [execOp, hf.ev hx, Instr.sliceAt, run_underlying hu.u, Instr.sureAddr, Instr.sliceBounds, h1, hne, Addr.add]) k
end
section
variable {r : Option Nat} {P : Program} {Q : Exit → Act → World → Prop} {N : Nat} {D : List Deferred} {B : Nat} {w0 : World} {L : Env} {H : Hp} {ops : Array Oper} {rest : List Oper}
variable {d : Nat} {ty : TypeId} {pos : String} {aft : Array Edge}
/-- A guard that was itself left out. -/
theorem TL_guard_un {o : Op} {j : Nat} {b : Bool} {dj : Nat} (hj : ((ops[j]?).bind (·.dst)) = some dj) (hl : lk L dj = some undef)
    (hd : Nat.blt d N = true) (h : TL r P Q N D B w0 ((d, undef) :: L) H ops rest) : TL r P Q N D B w0 L H ops (⟨some d, o, ty, pos, aft, some (j, b)⟩ :: rest) := by
  intro a w hf hs
  have hy : yielded ops a.tmps j = none := by
    have := hf.get _ _ hl
    simp [yielded, hj, this, undef]
  unfold wpListIn
  rw [if_neg (by simp [Region.wanted, hy])]
  exact ⟨fun _ _ => trivial, h _ _ (hf.put hd _) hs⟩
/-- Half a number that is not below 0. -/
theorem TL_half {t t' : TypeId} {kd k2 : IntKind} {x y : Operand} {m : Int} (hd : Nat.blt d N = true) (hx : ev L x = some (.int kd m)) (hy : ev L y = some (.int k2 1)) (hk : Nat.blt 0 kd.bits = true) (hm : 0 ≤ m)
    (k : TL r P Q N D B w0 ((d, .int kd (m / 2)) :: L) H ops rest) : TL r P Q N D B w0 L H ops (⟨some d, .binOp .shr t x y t', ty, pos, aft, none⟩ :: rest) :=
  TL_val (by simp) hd _ (fun a w hf _ => by
    have h1 : min 1 kd.bits = 1 := by have : 0 < kd.bits := by simpa [Nat.blt_eq] using hk
                                      omega
    have h2 : m.fdiv 2 = m / 2 := Int.fdiv_eq_ediv_of_nonneg m (by omega)
    simp [execOp, hf.ev hx, hf.ev hy, eqGuard, binOp, Op.shift, h1, h2]) k
theorem TL_conv_same {s e : TypeId} {x : Operand} {k1 k2 : IntKind} {n : Int} (hd : Nat.blt d N = true) [hs : IntP P s k1] [he : IntP P e k2] (hx : ev L x = some (.int k1 n)) (hw : k2.wrap n = n)
    (k : TL r P Q N D B w0 ((d, .int k2 n) :: L) H ops rest) : TL r P Q N D B w0 L H ops (⟨some d, .convert s e x, ty, pos, aft, none⟩ :: rest) :=
  TL_convert hd hx (by rw [hw]; exact k)
/-- A sum, wrapped. -/
theorem TL_addw {t t' : TypeId} {kd : IntKind} {x y : Operand} {m n : Int} (hd : Nat.blt d N = true) (hx : ev L x = some (.int kd m)) (hy : ev L y = some (.int kd n))
    (k : TL r P Q N D B w0 ((d, .int kd (kd.wrap (m + n))) :: L) H ops rest) : TL r P Q N D B w0 L H ops (⟨some d, .binOp .add t x y t', ty, pos, aft, none⟩ :: rest) :=
  TL_arith hd hx hy (fun w => ⟨rfl, by simp [Go.binOp, Op.intArith]⟩) k
/-- Orders that are known. -/
theorem TL_gtr_t {t t' : TypeId} {kd : IntKind} {x y : Operand} {m n : Int} (hd : Nat.blt d N = true) (hx : ev L x = some (.int kd m)) (hy : ev L y = some (.int kd n)) (h : n < m)
    (k : TL r P Q N D B w0 ((d, .bool true) :: L) H ops rest) : TL r P Q N D B w0 L H ops (⟨some d, .binOp .gtr t x y t', ty, pos, aft, none⟩ :: rest) :=
  TL_gtr hd hx hy (by rw [decide_eq_true h]; exact k)
theorem TL_gtr_f {t t' : TypeId} {kd : IntKind} {x y : Operand} {m n : Int} (hd : Nat.blt d N = true) (hx : ev L x = some (.int kd m)) (hy : ev L y = some (.int kd n)) (h : ¬ n < m)
    (k : TL r P Q N D B w0 ((d, .bool false) :: L) H ops rest) : TL r P Q N D B w0 L H ops (⟨some d, .binOp .gtr t x y t', ty, pos, aft, none⟩ :: rest) :=
  TL_gtr hd hx hy (by rw [decide_eq_false h]; exact k)
theorem TL_lss_t {t t' : TypeId} {kd : IntKind} {x y : Operand} {m n : Int} (hd : Nat.blt d N = true) (hx : ev L x = some (.int kd m)) (hy : ev L y = some (.int kd n)) (h : m < n)
    (k : TL r P Q N D B w0 ((d, .bool true) :: L) H ops rest) : TL r P Q N D B w0 L H ops (⟨some d, .binOp .lss t x y t', ty, pos, aft, none⟩ :: rest) :=
  TL_lss hd hx hy (by rw [decide_eq_true h]; exact k)
theorem TL_lss_f {t t' : TypeId} {kd : IntKind} {x y : Operand} {m n : Int} (hd : Nat.blt d N = true) (hx : ev L x = some (.int kd m)) (hy : ev L y = some (.int kd n)) (h : ¬ m < n)
    (k : TL r P Q N D B w0 ((d, .bool false) :: L) H ops rest) : TL r P Q N D B w0 L H ops (⟨some d, .binOp .lss t x y t', ty, pos, aft, none⟩ :: rest) :=
  TL_lss hd hx hy (by rw [decide_eq_false h]; exact k)
theorem TL_eql_t {t t' : TypeId} {kd : IntKind} {x y : Operand} {m n : Int} (hd : Nat.blt d N = true) (hx : ev L x = some (.int kd m)) (hy : ev L y = some (.int kd n)) (h : m = n)
    (k : TL r P Q N D B w0 ((d, .bool true) :: L) H ops rest) : TL r P Q N D B w0 L H ops (⟨some d, .binOp .eql t x y t', ty, pos, aft, none⟩ :: rest) :=
  TL_eql hd hx hy (by rw [decide_eq_true h]; exact k)
theorem TL_eql_f {t t' : TypeId} {kd : IntKind} {x y : Operand} {m n : Int} (hd : Nat.blt d N = true) (hx : ev L x = some (.int kd m)) (hy : ev L y = some (.int kd n)) (h : ¬ m = n)
    (k : TL r P Q N D B w0 ((d, .bool false) :: L) H ops rest) : TL r P Q N D B w0 L H ops (⟨some d, .binOp .eql t x y t', ty, pos, aft, none⟩ :: rest) :=
  TL_eql hd hx hy (by rw [decide_eq_false h]; exact k)
theorem TL_leq_t {t t' : TypeId} {kd : IntKind} {x y : Operand} {m n : Int} (hd : Nat.blt d N = true) (hx : ev L x = some (.int kd m)) (hy : ev L y = some (.int kd n)) (h : m ≤ n)
    (k : TL r P Q N D B w0 ((d, .bool true) :: L) H ops rest) : TL r P Q N D B w0 L H ops (⟨some d, .binOp .leq t x y t', ty, pos, aft, none⟩ :: rest) :=
  TL_leq hd hx hy (by rw [decide_eq_true h]; exact k)
theorem TL_leq_f {t t' : TypeId} {kd : IntKind} {x y : Operand} {m n : Int} (hd : Nat.blt d N = true) (hx : ev L x = some (.int kd m)) (hy : ev L y = some (.int kd n)) (h : ¬ m ≤ n)
    (k : TL r P Q N D B w0 ((d, .bool false) :: L) H ops rest) : TL r P Q N D B w0 L H ops (⟨some d, .binOp .leq t x y t', ty, pos, aft, none⟩ :: rest) :=
  TL_leq hd hx hy (by rw [decide_eq_false h]; exact k)
theorem TL_geq_t {t t' : TypeId} {kd : IntKind} {x y : Operand} {m n : Int} (hd : Nat.blt d N = true) (hx : ev L x = some (.int kd m)) (hy : ev L y = some (.int kd n)) (h : n ≤ m)
    (k : TL r P Q N D B w0 ((d, .bool true) :: L) H ops rest) : TL r P Q N D B w0 L H ops (⟨some d, .binOp .geq t x y t', ty, pos, aft, none⟩ :: rest) :=
  TL_geq hd hx hy (by rw [decide_eq_true h]; exact k)
theorem TL_geq_f {t t' : TypeId} {kd : IntKind} {x y : Operand} {m n : Int} (hd : Nat.blt d N = true) (hx : ev L x = some (.int kd m)) (hy : ev L y = some (.int kd n)) (h : ¬ n ≤ m)
    (k : TL r P Q N D B w0 ((d, .bool false) :: L) H ops rest) : TL r P Q N D B w0 L H ops (⟨some d, .binOp .geq t x y t', ty, pos, aft, none⟩ :: rest) :=
  TL_geq hd hx hy (by rw [decide_eq_false h]; exact k)
theorem TL_neq_t {t t' : TypeId} {kd : IntKind} {x y : Operand} {m n : Int} (hd : Nat.blt d N = true) (hx : ev L x = some (.int kd m)) (hy : ev L y = some (.int kd n)) (h : m ≠ n)
    (k : TL r P Q N D B w0 ((d, .bool true) :: L) H ops rest) : TL r P Q N D B w0 L H ops (⟨some d, .binOp .neq t x y t', ty, pos, aft, none⟩ :: rest) :=
  TL_neq hd hx hy (by rw [decide_eq_true h]; exact k)
theorem TL_neq_f {t t' : TypeId} {kd : IntKind} {x y : Operand} {m n : Int} (hd : Nat.blt d N = true) (hx : ev L x = some (.int kd m)) (hy : ev L y = some (.int kd n)) (h : m = n)
    (k : TL r P Q N D B w0 ((d, .bool false) :: L) H ops rest) : TL r P Q N D B w0 L H ops (⟨some d, .binOp .neq t x y t', ty, pos, aft, none⟩ :: rest) :=
  TL_neq hd hx hy (by rw [decide_eq_false (fun h' => h' h)]; exact k)
/-- Comparing a value with itself. -/
theorem TL_eql_same {t t' : TypeId} {kd : IntKind} {x y : Operand} {m : Int} (hd : Nat.blt d N = true) (hx : ev L x = some (.int kd m)) (hy : ev L y = some (.int kd m))
    (k : TL r P Q N D B w0 ((d, .bool true) :: L) H ops rest) : TL r P Q N D B w0 L H ops (⟨some d, .binOp .eql t x y t', ty, pos, aft, none⟩ :: rest) :=
  TL_eql hd hx hy (by rw [decide_eq_true rfl]; exact k)
theorem TL_eqlS_same {t t' : TypeId} {x y : Operand} {lv n : Nat} {z vs : List Value} {xs : List Int} (hd : Nat.blt d N = true) [ht : TyP P t n true z] [he : EqP P t lv n] [hg : EqG P t] (hx : ev L x = some (.agg vs.toArray)) (hy : ev L y = some (.agg vs.toArray))
    (h1 : intsOf vs = some xs) (hlv : Nat.ble lv 10000 = true) (hz : z = List.replicate n (.int .i64 0)) (hn1 : xs.length = n)
    (k : TL r P Q N D B w0 ((d, .bool true) :: L) H ops rest) : TL r P Q N D B w0 L H ops (⟨some d, .binOp .eql t x y t', ty, pos, aft, none⟩ :: rest) :=
  TL_eqlS hd hx hy h1 h1 hlv hz hn1 hn1 (by rw [decide_eq_true rfl]; exact k)
theorem TL_neq_same {t t' : TypeId} {kd : IntKind} {x y : Operand} {m : Int} (hd : Nat.blt d N = true) (hx : ev L x = some (.int kd m)) (hy : ev L y = some (.int kd m))
    (k : TL r P Q N D B w0 ((d, .bool false) :: L) H ops rest) : TL r P Q N D B w0 L H ops (⟨some d, .binOp .neq t x y t', ty, pos, aft, none⟩ :: rest) :=
  TL_neq hd hx hy (by rw [decide_eq_false (fun h => h rfl)]; exact k)
theorem TL_neqS_same {t t' : TypeId} {x y : Operand} {lv n : Nat} {z vs : List Value} {xs : List Int} (hd : Nat.blt d N = true) [ht : TyP P t n true z] [he : EqP P t lv n] [hg : EqG P t] (hx : ev L x = some (.agg vs.toArray)) (hy : ev L y = some (.agg vs.toArray))
    (h1 : intsOf vs = some xs) (hlv : Nat.ble lv 10000 = true) (hz : z = List.replicate n (.int .i64 0)) (hn1 : xs.length = n)
    (k : TL r P Q N D B w0 ((d, .bool false) :: L) H ops rest) : TL r P Q N D B w0 L H ops (⟨some d, .binOp .neq t x y t', ty, pos, aft, none⟩ :: rest) :=
  TL_neqS hd hx hy h1 h1 hlv hz hn1 hn1 (by rw [decide_eq_false (fun h => h rfl)]; exact k)
theorem TL_neqB_same {t t' : TypeId} {x y : Operand} {p : Bool} (hd : Nat.blt d N = true) (hu : P.underlying t = some .bool) (hx : ev L x = some (.bool p)) (hy : ev L y = some (.bool p))
    (k : TL r P Q N D B w0 ((d, .bool false) :: L) H ops rest) : TL r P Q N D B w0 L H ops (⟨some d, .binOp .neq t x y t', ty, pos, aft, none⟩ :: rest) :=
  TL_neqB hd hu hx hy (by rw [bne_self_eq_false]; exact k)
end
/-- A slice into a block of the call's own, from cell o on. -/
theorem Sl.of_blk_off {α : Type} {B : Nat} {w0 w : World} {H : Hp} {k : Nat} {enc : α → List Value} {b o : Nat} {cs : List Value} {T : TypeId} {l : List α} (h : SH B w0 w H) (hm : (b, .cells cs T) ∈ H)
    (hk : ∀ x ∈ l, (enc x).length = k) (hc : ∃ more, dropN o cs = l.flatMap enc ++ more) : Sl w k enc (some ⟨b, o, none⟩) l := by
  obtain ⟨more, hc⟩ := hc
  rw [dropN_eq] at hc
  refine ⟨hk, fun _ => ⟨b, o, rfl⟩, fun i x hx f v hv => ?_⟩
  show w.cell? ⟨b, o + (i * k + f), none⟩ = _
  rw [cell_of (h.holds _ _ hm).2]
  have key : ∀ (l : List α) (i : Nat) (more : List Value), (∀ x ∈ l, (enc x).length = k) → l[i]? = some x → (l.flatMap enc ++ more)[i * k + f]? = some v := by
    intro l
    induction l with
    | nil => intro i more _ h; simp at h
    | cons y l ih =>
      intro i more hk h
      have hy := hk y List.mem_cons_self
      cases i with
      | zero =>
        simp at h; subst h
        rw [Nat.zero_mul, Nat.zero_add, List.flatMap_cons, List.append_assoc, List.getElem?_append_left (List.getElem?_eq_some_iff.1 hv).1]
        exact hv
      | succ i =>
        rw [List.flatMap_cons, List.append_assoc, List.getElem?_append_right (by rw [hy, Nat.succ_mul]; omega), hy, show (i + 1) * k + f - k = i * k + f by rw [Nat.succ_mul]; omega]
        exact ih i more (fun x hx => hk x (List.mem_cons_of_mem _ hx)) (by simpa using h)
  have := key l i more hk hx
  rw [← hc, List.getElem?_drop] at this
  exact this
end Go.Eng
