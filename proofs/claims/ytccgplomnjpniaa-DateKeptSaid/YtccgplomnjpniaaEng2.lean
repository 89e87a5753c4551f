/- The engine, part 2: the rules of the single operations. -/
import Derived.Test.YtccgplomnjpniaaEng1
import Derived.Shelf.Abstract
import Derived.IntWalk
namespace Go.Eng
open Go Go.RowKit

/-! ### Lists of cells -/
def dropN : Nat → List Value → List Value
  | 0, l => l
  | n + 1, l => match l with
    | [] => []
    | _ :: l => dropN n l
def takeN : Nat → List Value → Option (List Value)
  | 0, _ => some []
  | n + 1, l => match l with
    | [] => none
    | v :: l => match takeN n l with
      | some k => some (v :: k)
      | none => none
/-- 'vs' laid over 'cs' from its head on. -/
def overN : List Value → List Value → Option (List Value)
  | [], cs => some cs
  | v :: vs, cs => match cs with
    | [] => none
    | _ :: cs => match overN vs cs with
      | some k => some (v :: k)
      | none => none
/-- 'vs' laid over 'cs' from place n on. -/
def putN : Nat → List Value → List Value → Option (List Value)
  | 0, vs, cs => overN vs cs
  | n + 1, vs, cs => match cs with
    | [] => none
    | c :: cs => match putN n vs cs with
      | some k => some (c :: k)
      | none => none

theorem dropN_eq (n : Nat) : ∀ l : List Value, dropN n l = l.drop n := by
  induction n with
  | zero => intro l; rfl
  | succ n ih => intro l; cases l <;> simp [dropN, ih]
theorem takeN_some {n : Nat} : ∀ {l k : List Value}, takeN n l = some k → k = l.take n ∧ n ≤ l.length := by
  induction n with
  | zero => intro l k h; simp [takeN] at h; subst h; simp
  | succ n ih =>
    intro l k h
    cases l with
    | nil => simp [takeN] at h
    | cons v l =>
      simp only [takeN] at h
      split at h
      · rename_i k' hk'
        cases h
        obtain ⟨h1, h2⟩ := ih hk'
        exact ⟨by simp [h1], by simpa using h2⟩
      · cases h
theorem overN_some : ∀ {vs cs k : List Value}, overN vs cs = some k → k = vs ++ cs.drop vs.length ∧ vs.length ≤ cs.length := by
  intro vs
  induction vs with
  | nil => intro cs k h; simp [overN] at h; subst h; simp
  | cons v vs ih =>
    intro cs k h
    cases cs with
    | nil => simp [overN] at h
    | cons c cs =>
      simp only [overN] at h
      split at h
      · rename_i k' hk'
        cases h
        obtain ⟨h1, h2⟩ := ih hk'
        exact ⟨by simp [h1], by simpa using h2⟩
      · cases h
theorem putN_some {n : Nat} : ∀ {vs cs k : List Value}, putN n vs cs = some k → k = cs.take n ++ vs ++ cs.drop (n + vs.length) ∧ n + vs.length ≤ cs.length := by
  induction n with
  | zero => intro vs cs k h; obtain ⟨h1, h2⟩ := overN_some h; simp [h1, h2]
  | succ n ih =>
    intro vs cs k h
    cases cs with
    | nil => simp [putN] at h
    | cons c cs =>
      simp only [putN] at h
      split at h
      · rename_i k' hk'
        cases h
        obtain ⟨h1, h2⟩ := ih hk'
        refine ⟨by simp [h1, Nat.add_right_comm], by simp; omega⟩
      · cases h

def oneCells : List Value → Bool
  | [] => true
  | v :: l => match v with
    | .agg _ => false
    | .tuple _ => false
    | _ => oneCells l
theorem oneCells_mem : ∀ {l : List Value}, oneCells l = true → ∀ v ∈ l, v.oneCell' = true := by
  intro l
  induction l with
  | nil => intro _ v hv; cases hv
  | cons x l ih =>
    intro h v hv
    rcases List.mem_cons.1 hv with rfl | hv
    · cases v <;> simp [oneCells] at h <;> rfl
    · exact ih (by cases x <;> simp [oneCells] at h <;> exact h) v hv

/-! ### What the program's tables say of types -/
/-- A type's cells, whether it is a struct or an array, its zero cells. -/
class TyP (P : Program) (t : TypeId) (sz : outParam Nat) (ag : outParam Bool) (z : outParam (List Value)) : Prop where
  info : ∃ i v, P.info? t = some i ∧ i.size = sz ∧ i.zero = some v ∧ v.cells = z.toArray
  ag : ∀ w, (isAgg t).run P w = .ok ag w

def aggB : TypeDesc → Bool
  | .struct _ => true
  | .array _ _ => true
  | _ => false

theorem TyP.mk' {P : Program} {t : TypeId} {sz : Nat} {z : List Value} {v : Value} {d : TypeDesc} {ag : Bool} (h : (P.info? t).map (fun i => (i.size, i.zero)) = some (sz, some v)) (hv : v.cells = z.toArray)
    (hu : P.underlying t = some d) (ha : aggB d = ag) : TyP P t sz ag z := by
  refine ⟨?_, fun w => ?_⟩
  · obtain ⟨i, hi, hz⟩ := Option.map_eq_some_iff.1 h
    simp only [Prod.mk.injEq] at hz
    exact ⟨i, v, hi, hz.1, hz.2, hv⟩
  · subst ha
    unfold isAgg
    simp only [Sem.run_bind, run_underlying hu, Result.andThen]
    cases d <;> rfl

/-- Field f of struct type s lies 'off' cells behind its head. -/
class FldP (P : Program) (s f : Nat) (off : outParam Nat) : Prop where
  run : ∀ a w, (Instr.fieldAt s (.pointer (some a)) f).run P w = .ok (.pointer (some (a.add off))) w
/-- Type t is a slice of e's. -/
class SlcP (P : Program) (t : TypeId) (e : outParam TypeId) : Prop where
  u : P.underlying t = some (.slice e)
/-- Type t is an integer kind. -/
class IntP (P : Program) (t : TypeId) (kd : outParam IntKind) : Prop where
  u : P.underlying t = some (.int kd)
/-- A value of type t takes so many bytes. -/
class BytP (P : Program) (t : TypeId) (n : outParam Nat) : Prop where
  b : P.bytesOf t = n

theorem FldP.mk' {P : Program} {s f off : Nat} {fs : Array Field} {fd : Field} {sz : Nat} (hu : P.underlying s = some (.struct fs)) (hf : fs[f]? = some fd) (ho : fd.offset = off)
    (hsz : (P.info? fd.type).map (·.size) = some sz) (hn : (sz == 0) = false) : FldP P s f off := by
  refine ⟨fun a w => ?_⟩
  obtain ⟨i, hi, hz⟩ := Option.map_eq_some_iff.1 hsz
  have hn' : sz ≠ 0 := by simpa using hn
  subst ho
  simp [Instr.fieldAt, run_underlying hu, hf, Instr.sureAddr, fieldPlace, sizeOf, typeInfo, hi, hz, hn']

section
variable {r : Option Nat} {P : Program} {Q : Exit → Act → World → Prop} {N : Nat} {D : List Deferred} {B : Nat} {w0 : World} {L : Env} {H : Hp} {ops : Array Oper} {rest : List Oper}
variable {d : Nat} {ty : TypeId} {pos : String} {aft : Array Edge}

/-! ### Pure operations -/
theorem TL_move {x : Operand} {v : Value} (hd : Nat.blt d N = true) (hx : ev L x = some v) (k : TL r P Q N D B w0 ((d, v) :: L) H ops rest) : TL r P Q N D B w0 L H ops (⟨some d, .move x, ty, pos, aft, none⟩ :: rest) :=
  TL_val (by simp) hd v (fun a w hf _ => by simp [execOp, hf.ev hx]) k
theorem TL_assign {x : Operand} {v : Value} (hd : Nat.blt d N = true) (hx : ev L x = some v) (k : TL r P Q N D B w0 ((d, v) :: L) H ops rest) : TL r P Q N D B w0 L H ops (⟨some d, .assign x, ty, pos, aft, none⟩ :: rest) :=
  TL_val (by simp) hd v (fun a w hf _ => by simp [execOp, hf.ev hx]) k
def pickO : Bool → Operand → Operand → Operand
  | true, x, _ => x
  | false, _, y => y
theorem TL_pick {c x y : Operand} {p : Bool} {v : Value} (hd : Nat.blt d N = true) (hc : ev L c = some (.bool p)) (hv : ev L (pickO p x y) = some v) (k : TL r P Q N D B w0 ((d, v) :: L) H ops rest) :
    TL r P Q N D B w0 L H ops (⟨some d, .pick c x y, ty, pos, aft, none⟩ :: rest) :=
  TL_val (by simp) hd v (fun a w hf _ => by
    cases p
    · simp only [pickO] at hv; simp [execOp, hf.ev hc, asBool, hf.ev hv]
    · simp only [pickO] at hv; simp [execOp, hf.ev hc, asBool, hf.ev hv]) k

theorem wrap_i64_of {n : Int} (h : -9223372036854775808 ≤ n ∧ n ≤ 9223372036854775807) : IntKind.i64.wrap n = n := IntWalk.i64_in n h

theorem TL_arith {op : BinOp} {t t' : TypeId} {x y : Operand} {kd : IntKind} {m n : Int} {v : Value} (hd : Nat.blt d N = true) (hx : ev L x = some (.int kd m)) (hy : ev L y = some (.int kd n))
    (hv : ∀ w : World, (eqGuard op t x y (.int kd m) (.int kd n)).run P w = .ok () w ∧ (Go.binOp op t (.int kd m) (.int kd n)).run P w = .ok v w) (k : TL r P Q N D B w0 ((d, v) :: L) H ops rest) :
    TL r P Q N D B w0 L H ops (⟨some d, .binOp op t x y t', ty, pos, aft, none⟩ :: rest) :=
  TL_val (by simp) hd v (fun a w hf _ => by
    simp only [execOp, hf.ev hx, hf.ev hy, Sem.run_bind, (hv w).1, Result.andThen, (hv w).2]; rfl) k

theorem TL_add {t t' : TypeId} {x y : Operand} {m n : Int} (hd : Nat.blt d N = true) (hx : ev L x = some (.int .i64 m)) (hy : ev L y = some (.int .i64 n)) (hr : -9223372036854775808 ≤ m + n ∧ m + n ≤ 9223372036854775807)
    (k : TL r P Q N D B w0 ((d, .int .i64 (m + n)) :: L) H ops rest) : TL r P Q N D B w0 L H ops (⟨some d, .binOp .add t x y t', ty, pos, aft, none⟩ :: rest) :=
  TL_arith hd hx hy (fun w => ⟨rfl, by simp [Go.binOp, Op.intArith, wrap_i64_of hr]⟩) k
theorem TL_sub {t t' : TypeId} {x y : Operand} {m n : Int} (hd : Nat.blt d N = true) (hx : ev L x = some (.int .i64 m)) (hy : ev L y = some (.int .i64 n)) (hr : -9223372036854775808 ≤ m - n ∧ m - n ≤ 9223372036854775807)
    (k : TL r P Q N D B w0 ((d, .int .i64 (m - n)) :: L) H ops rest) : TL r P Q N D B w0 L H ops (⟨some d, .binOp .sub t x y t', ty, pos, aft, none⟩ :: rest) :=
  TL_arith hd hx hy (fun w => ⟨rfl, by simp [Go.binOp, Op.intArith, wrap_i64_of hr]⟩) k
theorem TL_mul {t t' : TypeId} {x y : Operand} {m n : Int} (hd : Nat.blt d N = true) (hx : ev L x = some (.int .i64 m)) (hy : ev L y = some (.int .i64 n)) (hr : -9223372036854775808 ≤ m * n ∧ m * n ≤ 9223372036854775807)
    (k : TL r P Q N D B w0 ((d, .int .i64 (m * n)) :: L) H ops rest) : TL r P Q N D B w0 L H ops (⟨some d, .binOp .mul t x y t', ty, pos, aft, none⟩ :: rest) :=
  TL_arith hd hx hy (fun w => ⟨rfl, by simp [Go.binOp, Op.intArith, wrap_i64_of hr]⟩) k
theorem TL_quo {t t' : TypeId} {x y : Operand} {m n : Int} (hd : Nat.blt d N = true) (hx : ev L x = some (.int .i64 m)) (hy : ev L y = some (.int .i64 n)) (hn : n ≠ 0) (hr : -9223372036854775808 ≤ m.tdiv n ∧ m.tdiv n ≤ 9223372036854775807)
    (k : TL r P Q N D B w0 ((d, .int .i64 (m.tdiv n)) :: L) H ops rest) : TL r P Q N D B w0 L H ops (⟨some d, .binOp .quo t x y t', ty, pos, aft, none⟩ :: rest) :=
  TL_arith hd hx hy (fun w => ⟨rfl, by simp [Go.binOp, Op.intDiv, hn, wrap_i64_of hr]⟩) k
theorem TL_quo_nn {t t' : TypeId} {x y : Operand} {m n : Int} (hd : Nat.blt d N = true) (hx : ev L x = some (.int .i64 m)) (hy : ev L y = some (.int .i64 n)) (hm : 0 ≤ m ∧ m ≤ 9223372036854775807) (hn : 0 < n)
    (k : TL r P Q N D B w0 ((d, .int .i64 (m / n)) :: L) H ops rest) : TL r P Q N D B w0 L H ops (⟨some d, .binOp .quo t x y t', ty, pos, aft, none⟩ :: rest) := by
  have h1 : m.tdiv n = m / n := Int.tdiv_eq_ediv_of_nonneg hm.1
  have h2 : 0 ≤ m / n := Int.ediv_nonneg hm.1 (by omega)
  have h3 : m / n ≤ m := Int.ediv_le_self _ hm.1
  exact TL_quo hd hx hy (by omega) (by rw [h1]; omega) (by rw [h1]; exact k)
theorem TL_rem {t t' : TypeId} {kd : IntKind} {x y : Operand} {m n : Int} (hd : Nat.blt d N = true) (hx : ev L x = some (.int kd m)) (hy : ev L y = some (.int kd n)) (hn : n ≠ 0)
    (k : TL r P Q N D B w0 ((d, .int kd (m.tmod n)) :: L) H ops rest) : TL r P Q N D B w0 L H ops (⟨some d, .binOp .rem t x y t', ty, pos, aft, none⟩ :: rest) :=
  TL_arith hd hx hy (fun w => ⟨rfl, by simp [Go.binOp, Op.intDiv, hn]⟩) k
theorem TL_rem_nn {t t' : TypeId} {kd : IntKind} {x y : Operand} {m n : Int} (hd : Nat.blt d N = true) (hx : ev L x = some (.int kd m)) (hy : ev L y = some (.int kd n)) (hm : 0 ≤ m) (hn : 0 < n)
    (k : TL r P Q N D B w0 ((d, .int kd (m % n)) :: L) H ops rest) : TL r P Q N D B w0 L H ops (⟨some d, .binOp .rem t x y t', ty, pos, aft, none⟩ :: rest) := by
  have h1 : m.tmod n = m % n := Int.tmod_eq_emod_of_nonneg hm
  exact TL_rem hd hx hy (by omega) (by rw [h1]; exact k)
theorem TL_lss {t t' : TypeId} {kd : IntKind} {x y : Operand} {m n : Int} (hd : Nat.blt d N = true) (hx : ev L x = some (.int kd m)) (hy : ev L y = some (.int kd n))
    (k : TL r P Q N D B w0 ((d, .bool (decide (m < n))) :: L) H ops rest) : TL r P Q N D B w0 L H ops (⟨some d, .binOp .lss t x y t', ty, pos, aft, none⟩ :: rest) :=
  TL_arith hd hx hy (fun w => ⟨rfl, by simp [Go.binOp, Op.intCmp]⟩) k
theorem TL_leq {t t' : TypeId} {kd : IntKind} {x y : Operand} {m n : Int} (hd : Nat.blt d N = true) (hx : ev L x = some (.int kd m)) (hy : ev L y = some (.int kd n))
    (k : TL r P Q N D B w0 ((d, .bool (decide (m ≤ n))) :: L) H ops rest) : TL r P Q N D B w0 L H ops (⟨some d, .binOp .leq t x y t', ty, pos, aft, none⟩ :: rest) :=
  TL_arith hd hx hy (fun w => ⟨rfl, by simp [Go.binOp, Op.intCmp]⟩) k
theorem TL_gtr {t t' : TypeId} {kd : IntKind} {x y : Operand} {m n : Int} (hd : Nat.blt d N = true) (hx : ev L x = some (.int kd m)) (hy : ev L y = some (.int kd n))
    (k : TL r P Q N D B w0 ((d, .bool (decide (n < m))) :: L) H ops rest) : TL r P Q N D B w0 L H ops (⟨some d, .binOp .gtr t x y t', ty, pos, aft, none⟩ :: rest) :=
  TL_arith hd hx hy (fun w => ⟨rfl, by simp [Go.binOp, Op.intCmp]⟩) k
theorem TL_geq {t t' : TypeId} {kd : IntKind} {x y : Operand} {m n : Int} (hd : Nat.blt d N = true) (hx : ev L x = some (.int kd m)) (hy : ev L y = some (.int kd n))
    (k : TL r P Q N D B w0 ((d, .bool (decide (n ≤ m))) :: L) H ops rest) : TL r P Q N D B w0 L H ops (⟨some d, .binOp .geq t x y t', ty, pos, aft, none⟩ :: rest) :=
  TL_arith hd hx hy (fun w => ⟨rfl, by simp [Go.binOp, Op.intCmp]⟩) k
theorem beq_dec (m n : Int) : (m == n) = decide (m = n) := by rw [Bool.eq_iff_iff]; simp
theorem bne_dec (m n : Int) : (m != n) = decide (m ≠ n) := by rw [Bool.eq_iff_iff]; simp
theorem TL_eql {t t' : TypeId} {kd : IntKind} {x y : Operand} {m n : Int} (hd : Nat.blt d N = true) (hx : ev L x = some (.int kd m)) (hy : ev L y = some (.int kd n))
    (k : TL r P Q N D B w0 ((d, .bool (decide (m = n))) :: L) H ops rest) : TL r P Q N D B w0 L H ops (⟨some d, .binOp .eql t x y t', ty, pos, aft, none⟩ :: rest) :=
  TL_arith hd hx hy (fun w => ⟨rfl, by simp only [Go.binOp, Op.intCmp, beq_dec, ne_eq, not_true_eq_false, if_false]; rfl⟩) k
theorem TL_neq {t t' : TypeId} {kd : IntKind} {x y : Operand} {m n : Int} (hd : Nat.blt d N = true) (hx : ev L x = some (.int kd m)) (hy : ev L y = some (.int kd n))
    (k : TL r P Q N D B w0 ((d, .bool (decide (m ≠ n))) :: L) H ops rest) : TL r P Q N D B w0 L H ops (⟨some d, .binOp .neq t x y t', ty, pos, aft, none⟩ :: rest) :=
  TL_arith hd hx hy (fun w => ⟨rfl, by simp only [Go.binOp, Op.intCmp, bne_dec, ne_eq, not_true_eq_false, if_false]; rfl⟩) k
theorem TL_not_dec {t : TypeId} {x : Operand} {p : Prop} {_ : Decidable p} (hd : Nat.blt d N = true) (hx : ev L x = some (.bool (decide p)))
    (k : TL r P Q N D B w0 ((d, .bool (decide (¬ p))) :: L) H ops rest) : TL r P Q N D B w0 L H ops (⟨some d, .unOp .not t x, ty, pos, aft, none⟩ :: rest) :=
  TL_val (by simp) hd _ (fun a w hf _ => by simp [execOp, hf.ev hx, Op.unary]) k
theorem TL_not {t : TypeId} {x : Operand} {p : Bool} (hd : Nat.blt d N = true) (hx : ev L x = some (.bool p))
    (k : TL r P Q N D B w0 ((d, .bool (!p)) :: L) H ops rest) : TL r P Q N D B w0 L H ops (⟨some d, .unOp .not t x, ty, pos, aft, none⟩ :: rest) :=
  TL_val (by simp) hd _ (fun a w hf _ => by simp [execOp, hf.ev hx, Op.unary]) k
theorem TL_neg {t : TypeId} {x : Operand} {m : Int} (hd : Nat.blt d N = true) (hx : ev L x = some (.int .i64 m)) (hr : -9223372036854775808 ≤ -m ∧ -m ≤ 9223372036854775807)
    (k : TL r P Q N D B w0 ((d, .int .i64 (-m)) :: L) H ops rest) : TL r P Q N D B w0 L H ops (⟨some d, .unOp .neg t x, ty, pos, aft, none⟩ :: rest) :=
  TL_val (by simp) hd _ (fun a w hf _ => by simp [execOp, hf.ev hx, Op.unary, Op.intArith, wrap_i64_of hr]) k

theorem TL_extract {x : Operand} {i : Nat} {vs : List Value} {v : Value} (hd : Nat.blt d N = true) (hx : ev L x = some (.tuple vs.toArray)) (hv : vs[i]? = some v)
    (k : TL r P Q N D B w0 ((d, v) :: L) H ops rest) : TL r P Q N D B w0 L H ops (⟨some d, .extract x i, ty, pos, aft, none⟩ :: rest) :=
  TL_val (by simp) hd v (fun a w hf _ => by simp [execOp, hf.ev hx, Instr.extract, hv]) k
theorem TL_makeFunc {fn : Fn} {first cap : List Operand} {fl cl : List Value} (hd : Nat.blt d N = true) (hfl : first.mapM (ev L) = some fl) (hcl : cap.mapM (ev L) = some cl)
    (k : TL r P Q N D B w0 ((d, .func fn fl.toArray cl.toArray) :: L) H ops rest) : TL r P Q N D B w0 L H ops (⟨some d, .makeFunc fn first.toArray cap.toArray, ty, pos, aft, none⟩ :: rest) := by
  have key : ∀ (a : Act) (hf : Fr N D L a) (l : List Operand) (vl : List Value), l.mapM (ev L) = some vl → l.map a.eval = vl := by
    intro a hf l
    induction l with
    | nil => intro vl h; simp at h; simp [h]
    | cons x l ih =>
      intro vl h
      simp only [List.mapM_cons, Option.pure_def, Option.bind_eq_bind, Option.bind_eq_some_iff] at h
      obtain ⟨v, h1, vl', h2, h3⟩ := h
      cases h3
      simp [hf.ev h1, ih _ h2]
  exact TL_val (by simp) hd _ (fun a w hf _ => by simp [execOp, key a hf _ _ hfl, key a hf _ _ hcl, Instr.makeFunc]) k
theorem TL_len {t : TypeId} {e : TypeId} {x : Operand} {ao : Option Addr} {n c : Nat} (hd : Nat.blt d N = true) [hu : SlcP P t e] (hx : ev L x = some (.slice ao n c))
    (k : TL r P Q N D B w0 ((d, .int .i64 (n : Int)) :: L) H ops rest) :
    TL r P Q N D B w0 L H ops (⟨some d, .call { callee := .builtin .len, args := #[x], argTypes := #[t] }, ty, pos, aft, none⟩ :: rest) :=
  TL_val (by simp) hd _ (fun a w hf _ => by simp [execOp, hf.ev hx, resolve, invoke, Go.builtin, Builtin.len_, run_underlying hu.u, goInt]) k
theorem min2_run (kd : IntKind) (m n : Int) (w : World) : (Builtin.min2 (.int kd m) (.int kd n)).run P w = .ok (.int kd (min m n)) w := by
  simp only [Builtin.min2]
  show Result.ok _ _ = _
  congr 2; omega
theorem max2_run (kd : IntKind) (m n : Int) (w : World) : (Builtin.max2 (.int kd m) (.int kd n)).run P w = .ok (.int kd (max m n)) w := by
  simp only [Builtin.max2]
  show Result.ok _ _ = _
  congr 2; omega
theorem TL_min {t t' : TypeId} {x y : Operand} {kd : IntKind} {m n : Int} (hd : Nat.blt d N = true) (hx : ev L x = some (.int kd m)) (hy : ev L y = some (.int kd n))
    (k : TL r P Q N D B w0 ((d, .int kd (min m n)) :: L) H ops rest) :
    TL r P Q N D B w0 L H ops (⟨some d, .call { callee := .builtin .min, args := #[x, y], argTypes := #[t, t'] }, ty, pos, aft, none⟩ :: rest) :=
  TL_val (by simp) hd _ (fun a w hf _ => by simp [execOp, hf.ev hx, hf.ev hy, resolve, invoke, Go.builtin, Builtin.min_, min2_run]) k
theorem TL_max {t t' : TypeId} {x y : Operand} {kd : IntKind} {m n : Int} (hd : Nat.blt d N = true) (hx : ev L x = some (.int kd m)) (hy : ev L y = some (.int kd n))
    (k : TL r P Q N D B w0 ((d, .int kd (max m n)) :: L) H ops rest) :
    TL r P Q N D B w0 L H ops (⟨some d, .call { callee := .builtin .max, args := #[x, y], argTypes := #[t, t'] }, ty, pos, aft, none⟩ :: rest) :=
  TL_val (by simp) hd _ (fun a w hf _ => by simp [execOp, hf.ev hx, hf.ev hy, resolve, invoke, Go.builtin, Builtin.max_, max2_run]) k
theorem TL_convert {s e : TypeId} {x : Operand} {k1 k2 : IntKind} {n : Int} (hd : Nat.blt d N = true) [hs : IntP P s k1] [he : IntP P e k2] (hx : ev L x = some (.int k1 n))
    (k : TL r P Q N D B w0 ((d, .int k2 (k2.wrap n)) :: L) H ops rest) : TL r P Q N D B w0 L H ops (⟨some d, .convert s e x, ty, pos, aft, none⟩ :: rest) :=
  TL_val (by simp) hd _ (fun a w hf _ => by
    simp only [execOp, hf.ev hx, convert, Sem.run_bind, run_underlying hs.u, run_underlying he.u, Result.andThen, Conv.intToInt]
    rfl) k
theorem TL_fieldAddr {s f : Nat} {x : Operand} {b o off : Nat} (hd : Nat.blt d N = true) [hF : FldP P s f off] (hx : ev L x = some (.pointer (some ⟨b, o, none⟩)))
    (k : TL r P Q N D B w0 ((d, .pointer (some ⟨b, o + off, none⟩)) :: L) H ops rest) : TL r P Q N D B w0 L H ops (⟨some d, .fieldAddr s x f, ty, pos, aft, none⟩ :: rest) :=
  TL_val (by simp) hd _ (fun a w hf _ => by
    have : (⟨b, o, none⟩ : Addr).add off = ⟨b, o + off, none⟩ := by unfold Addr.add; split <;> simp_all
    simp [execOp, hf.ev hx, hF.run ⟨b, o, none⟩ w, this]) k

/-! ### Memory: blocks of the call's own -/
theorem cell_of {w : World} {b : Nat} {cs : List Value} {T : TypeId} (h : w.heap[b]? = some (.cells cs.toArray T (0, 0))) (o : Nat) : w.cell? ⟨b, o, none⟩ = cs[o]? := by
  simp [World.cell?, h]
theorem add_plain' (b o i : Nat) : (⟨b, o, none⟩ : Addr).add i = ⟨b, o + i, none⟩ := by unfold Addr.add; split <;> simp_all

theorem TL_box {t : TypeId} {x : Operand} {v : Value} {vs : List Value} (hd : Nat.blt d N = true) (hx : ev L x = some v) (hv : v.cells.toList = vs)
    (k : ∀ b, B ≤ b → TL r P Q N D B w0 ((d, .pointer (some ⟨b, 0, none⟩)) :: L) ((b, .cells vs t) :: H) ops rest) : TL r P Q N D B w0 L H ops (⟨some d, .box t x, ty, pos, aft, none⟩ :: rest) :=
  TL_valw (by simp) hd (fun b : Nat => .pointer (some ⟨b, 0, none⟩)) (fun b => (b, .cells vs t) :: H) (fun b => B ≤ b) (fun a w hf hs => ⟨w.heap.size, w.alloc (Blk.cells vs t).toObj, hs.hB, by
    have : v.cells = vs.toArray := by rw [← hv]
    simp [execOp, hf.ev hx, Instr.box, newVar, newRow, this, Blk.toObj], hs.alloc _⟩) k

theorem TL_alloc {t : TypeId} {sz : Nat} {ag : Bool} {z : List Value} (hd : Nat.blt d N = true) [ht : TyP P t sz ag z]
    (k : ∀ b, B ≤ b → TL r P Q N D B w0 ((d, .pointer (some ⟨b, 0, none⟩)) :: L) ((b, .cells z t) :: H) ops rest) : TL r P Q N D B w0 L H ops (⟨some d, .alloc t, ty, pos, aft, none⟩ :: rest) :=
  TL_valw (by simp) hd (fun b : Nat => .pointer (some ⟨b, 0, none⟩)) (fun b => (b, .cells z t) :: H) (fun b => B ≤ b) (fun a w hf hs => by
    obtain ⟨i, v, hi, _, hz, hc⟩ := ht.info
    exact ⟨w.heap.size, w.alloc (Blk.cells z t).toObj, hs.hB, by
      simp [execOp, Instr.alloc, zeroValue, typeInfo, hi, hz, newVar, newRow, hc, Blk.toObj], hs.alloc _⟩) k

theorem run_load1 {t : TypeId} {sz : Nat} {z : List Value} [ht : TyP P t sz false z] {a : Addr} {v : Value} {w : World} (h : w.cell? a = some v) : (loadVar t a).run P w = .ok v w := by
  simp [loadVar, ht.ag w, load, Sem.run, h]
theorem run_loadn {t : TypeId} {sz : Nat} {z : List Value} [ht : TyP P t sz true z] {b o : Nat} {vs : List Value} {w : World} (hl : vs.length = sz) (h : ∀ j v, vs[j]? = some v → w.cell? ⟨b, o + j, none⟩ = some v) :
    (loadVar t ⟨b, o, none⟩).run P w = .ok (.agg vs.toArray) w := by
  obtain ⟨i, v, hi, hsz, _, _⟩ := ht.info
  have hlc := run_loadCells_list (P := P) (w := w) ⟨b, o, none⟩ vs (fun j v hv => by rw [add_plain']; exact h j v hv)
  simp [loadVar, ht.ag w, sizeOf, typeInfo, hi, hsz, ← hl, hlc]

theorem TL_load1 {t T : TypeId} {sz : Nat} {z : List Value} {x : Operand} {b o : Nat} {cs : List Value} {v : Value} (hd : Nat.blt d N = true) [ht : TyP P t sz false z] (hx : ev L x = some (.pointer (some ⟨b, o, none⟩)))
    (hm : (b, .cells cs T) ∈ H) (hv : takeN 1 (dropN o cs) = some [v]) (k : TL r P Q N D B w0 ((d, v) :: L) H ops rest) : TL r P Q N D B w0 L H ops (⟨some d, .load t x, ty, pos, aft, none⟩ :: rest) :=
  TL_val (by simp) hd _ (fun a w hf hs => by
    have hc := cell_of (hs.holds _ _ hm).2 o
    have h1 := takeN_some hv
    rw [dropN_eq] at h1
    have h2 : cs[o]? = some v := by
      have := congrArg (·[0]?) h1.1
      simpa [List.getElem?_take] using this.symm
    rw [h2] at hc
    simp [execOp, hf.ev hx, Instr.loadAt, Instr.sureAddr, run_load1 hc]) k
theorem TL_loadn {t T : TypeId} {sz : Nat} {z : List Value} {x : Operand} {b o : Nat} {cs vs : List Value} (hd : Nat.blt d N = true) [ht : TyP P t sz true z] (hx : ev L x = some (.pointer (some ⟨b, o, none⟩)))
    (hm : (b, .cells cs T) ∈ H) (hv : takeN sz (dropN o cs) = some vs) (k : TL r P Q N D B w0 ((d, .agg vs.toArray) :: L) H ops rest) : TL r P Q N D B w0 L H ops (⟨some d, .load t x, ty, pos, aft, none⟩ :: rest) :=
  TL_val (by simp) hd _ (fun a w hf hs => by
    have h1 := takeN_some hv
    rw [dropN_eq] at h1
    have hl : vs.length = sz := by rw [h1.1]; simp at h1 ⊢; omega
    have := run_loadn (P := P) (t := t) (b := b) (o := o) (w := w) hl (fun j v hj => by
      rw [cell_of (hs.holds _ _ hm).2]
      rw [h1.1, List.getElem?_take] at hj
      split at hj
      · simpa using hj
      · cases hj)
    simp [execOp, hf.ev hx, Instr.loadAt, Instr.sureAddr, this]) k

theorem run_storeVar {t T : TypeId} {sz : Nat} {ag : Bool} {z : List Value} [ht : TyP P t sz ag z] {b o : Nat} {v : Value} {vs cs cs' : List Value} {w : World} (hv : v.cells.toList = vs) (hone : oneCells vs = true) (hl : vs.length = sz)
    (hb : w.heap[b]? = some (.cells cs.toArray T (0, 0))) (hp : putN o vs cs = some cs') :
    ∃ w', (storeVar t ⟨b, o, none⟩ v).run P w = .ok () w' ∧ w'.os = w.os ∧ w'.tape = w.tape ∧ w'.output = w.output ∧ w'.heap.size = w.heap.size ∧ w'.heap[b]? = some (.cells cs'.toArray T (0, 0)) ∧ ∀ c, c ≠ b → w'.heap[c]? = w.heap[c]? := by
  obtain ⟨i, z', hi, hsz, _, _⟩ := ht.info
  obtain ⟨h1, h2⟩ := putN_some hp
  have hst := run_storeCells_at P b o T vs 0 cs.toArray w hb (by simpa using h2) (oneCells_mem hone)
  have hvc : v.cells.size = sz := by rw [← hl, ← hv]; simp
  refine ⟨w.setRow b (List.take (o + 0) cs.toArray.toList ++ vs ++ List.drop (o + 0 + vs.length) cs.toArray.toList).toArray, ?_, rfl, rfl, rfl, by simp, ?_, ?_⟩
  · rw [← hst]
    simp [storeVar, sizeOf, typeInfo, hi, hsz, hvc, hv]
  · rw [setRow_heap w b cs.toArray _ T _ hb, h1]; simp
  · intro c hc; exact setRow_other w b c _ hc

theorem TL_store {t T : TypeId} {sz : Nat} {ag : Bool} {z : List Value} {x y : Operand} {b o : Nat} {v : Value} {vs cs cs' : List Value} {H' : Hp} [ht : TyP P t sz ag z] (hx : ev L x = some (.pointer (some ⟨b, o, none⟩)))
    (hy : ev L y = some v) (hv : v.cells.toList = vs) (hone : oneCells vs = true) (hl : vs.length = sz) (hu : Upd H b (.cells cs T) (.cells cs' T) H') (hp : putN o vs cs = some cs')
    (k : TL r P Q N D B w0 L H' ops rest) : TL r P Q N D B w0 L H ops (⟨none, .store t x y, ty, pos, aft, none⟩ :: rest) :=
  TL_skipw (by simp) H' (fun a w hf hs => by
    obtain ⟨w', hr, h1, h2, h3, h4, h5, h6⟩ := run_storeVar (P := P) (t := t) (w := w) (o := o) hv hone hl (hs.holds _ _ hu.mem).2 hp
    refine ⟨w', ?_, hs.upd hu h1 h2 h3 h4 h5 h6⟩
    simp only [execOp, hf.ev hx, hf.ev hy, Instr.storeAt, Instr.sureAddr, Sem.run_bind, Sem.run_pure, Result.andThen, hr]) k

end
end Go.Eng
