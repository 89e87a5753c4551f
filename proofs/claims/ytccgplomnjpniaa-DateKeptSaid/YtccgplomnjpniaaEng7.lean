/- The engine, part 7: comparing structs of numbers. -/
import Derived.Test.YtccgplomnjpniaaEng6
import Derived.Laws.StructEq
namespace Go.Eng
open Go Go.RowKit

/-- The numbers of a row of cells. -/
def intsOf : List Value → Option (List Int)
  | [] => some []
  | v :: vs => match v with
    | .int .i64 m => match intsOf vs with
      | some ms => some (m :: ms)
      | none => none
    | _ => none
def encIs (l : List Int) : List Value := l.map (Value.int .i64)
theorem intsOf_some : ∀ {vs : List Value} {ms : List Int}, intsOf vs = some ms → vs = encIs ms := by
  intro vs
  induction vs with
  | nil => intro ms h; simp [intsOf] at h; subst h; rfl
  | cons v vs ih =>
    intro ms h
    unfold intsOf at h
    split at h
    · split at h
      · rename_i hk; cases h; rw [ih hk]; rfl
      · cases h
    · cases h

/-- '==' on a type whose cells are n numbers. -/
class EqP (P : Program) (t : TypeId) (lv n : outParam Nat) : Prop where
  run : ∀ (d : Nat) (xs ys : List Int) (v u : Value) (w : World), lv ≤ d → xs.length = n → ys.length = n →
    (∃ ag, TyP P t n ag (List.replicate n (.int .i64 0)) ∧ v = (if ag then .agg (encIs xs).toArray else (encIs xs).headD undef) ∧ u = (if ag then .agg (encIs ys).toArray else (encIs ys).headD undef)) →
    (Op.equalIn d t v u).run P w = .ok (decide (xs = ys)) w
class EqG (P : Program) (t : TypeId) : Prop where
  guard : P.eqGuardType P.depth t = false

theorem EqP.int {P : Program} {t : TypeId} [hi : IntP P t .i64] [ht : TyP P t 1 false [.int .i64 0]] : EqP P t 1 1 := ⟨by
  intro d xs ys v u w hd ha hb ⟨ag, hag, hv, hu⟩
  have : ag = false := by
    have h1 := hag.ag w
    rw [ht.ag w] at h1
    simpa using h1.symm
  subst this
  obtain ⟨a, rfl⟩ := List.length_eq_one_iff.1 ha
  obtain ⟨b, rfl⟩ := List.length_eq_one_iff.1 hb
  obtain ⟨d, rfl⟩ : ∃ e, d = e + 1 := ⟨d - 1, by omega⟩
  subst hv hu
  simp only [encIs, List.map_cons, List.map_nil, List.headD_cons, Bool.false_eq_true, if_false]
  rw [run_equalIn_int w d t .i64 .i64 a b hi.u]
  simp [beq_dec]⟩

inductive FsP (P : Program) (lv : Nat) : Nat → List Field → Nat → Prop
  | nil {off} : FsP P lv off [] 0
  | cons {off f fs k n ag lv'} : (f.name == "_") = false → f.offset = off → TyP P f.type k ag (List.replicate k (.int .i64 0)) → EqP P f.type lv' k → Nat.ble lv' lv = true → (ag || k == 1) = true → FsP P lv (off + k) fs n → FsP P lv off (f :: fs) (k + n)

theorem take_enc {l : List Int} {o k : Nat} : ((encIs l).drop o).take k = encIs ((l.drop o).take k) := by simp [encIs, List.map_take, List.map_drop]
theorem run_part_ints {P : Program} {t : TypeId} {k : Nat} {ag : Bool} [ht : TyP P t k ag (List.replicate k (.int .i64 0))] (w : World) {l : List Int} {off : Nat} (h : off + k ≤ l.length) (hk : ag = false → k = 1) :
    (part t (encIs l).toArray off).run P w = .ok (if ag then .agg (encIs ((l.drop off).take k)).toArray else (encIs ((l.drop off).take k)).headD undef) w := by
  obtain ⟨i, v, hi, hs, _, _⟩ := ht.info
  cases ag with
  | true =>
    have hsz : (Go.sizeOf t).run P w = .ok k w := by rw [run_sizeOf w hi]; simp [Program.cellsOf, hi, hs]
    simp only [part, Sem.run_bind, ht.ag w, Result.andThen_ok, if_true, hsz, Sem.run_pure]
    congr 2
    apply Array.ext'
    rw [Array.toList_extract]
    simp [List.extract, take_enc]
  | false =>
    obtain rfl := hk rfl
    have hlt : off < l.length := by omega
    have : (encIs l).toArray[off]? = some (.int .i64 l[off]) := by simp [encIs, hlt]
    simp only [part, Sem.run_bind, ht.ag w, Result.andThen_ok, Bool.false_eq_true, if_false, this, Sem.run_pure]
    have : (l.drop off).take 1 = [l[off]] := by
      rw [List.drop_eq_getElem_cons hlt]; rfl
    rw [this]; rfl

theorem run_eqFields_ints {P : Program} {d lv : Nat} (hd : lv ≤ d) {xs ys : List Int} (w : World) : ∀ {off : Nat} {fs : List Field} {n : Nat}, FsP P lv off fs n → off + n = xs.length → off + n = ys.length →
    (Op.eqFields d (encIs xs).toArray (encIs ys).toArray fs).run P w = .ok (decide (xs.drop off = ys.drop off)) w := by
  intro off fs n h
  induction h with
  | nil =>
    intro ha hb
    simp only [Op.eqFields, Sem.run_pure]
    rw [List.drop_eq_nil_of_le (by omega), List.drop_eq_nil_of_le (by omega)]; rfl
  | cons hn ho ht he hl hk hr ih =>
    rename_i off f fs k n ag lv'
    have hl' : lv' ≤ lv := by simpa using hl
    intro ha hb
    subst ho
    have hne : f.name ≠ "_" := by simpa using hn
    have hag : ag = false → k = 1 := fun h => by subst h; simpa using hk
    rw [Op.eqFields, if_pos hne]
    simp only [Sem.run_bind, run_part_ints (ht := ht) w (l := xs) (off := f.offset) (k := k) (by omega) hag, run_part_ints (ht := ht) w (l := ys) (off := f.offset) (k := k) (by omega) hag, Result.andThen_ok]
    rw [he.run d ((xs.drop f.offset).take k) ((ys.drop f.offset).take k) _ _ w (by omega) (by simp; omega) (by simp; omega) ⟨ag, ht, rfl, rfl⟩]
    simp only [Result.andThen_ok]
    have key : ∀ (l : List Int), l.drop f.offset = (l.drop f.offset).take k ++ l.drop (f.offset + k) := fun l => by
      rw [← List.drop_drop]; exact (List.take_append_drop k _).symm
    by_cases hh : (xs.drop f.offset).take k = (ys.drop f.offset).take k
    · simp only [hh, decide_true, Bool.not_true, Bool.false_eq_true, if_false]
      rw [ih (by omega) (by omega)]
      congr 2
      rw [eq_iff_iff, key xs, key ys, hh]
      constructor
      · intro h; rw [h]
      · intro h; exact List.append_cancel_left h
    · have : xs.drop f.offset ≠ ys.drop f.offset := fun e => hh (by rw [e])
      simp [hh, this]

theorem EqP.struct {P : Program} {t : TypeId} {lv n : Nat} (fs : List Field) [ht : TyP P t n true (List.replicate n (.int .i64 0))] (hu : P.underlying t = some (.struct fs.toArray)) (hp : P.stoodInHeld t = false) (hf : FsP P lv 0 fs n) : EqP P t (lv + 1) n := ⟨by
  intro d xs ys v u w hd ha hb ⟨ag, hag, hv, hu'⟩
  have : ag = true := by
    have h1 := hag.ag w
    rw [ht.ag w] at h1
    simpa using h1.symm
  subst this
  subst hv hu'
  obtain ⟨d, rfl⟩ : ∃ e, d = e + 1 := ⟨d - 1, by omega⟩
  have hfs : P.fieldsOf t = fs.toArray := by simp [Program.fieldsOf, hu]
  simp only [if_true]
  rw [run_equalIn_struct w d t _ _ (by rw [hfs]; exact hu) hp, hfs]
  have := run_eqFields_ints (d := d) (by omega) w hf (by rw [Nat.zero_add]; exact ha.symm) (by rw [Nat.zero_add]; exact hb.symm)
  simpa using this⟩

section
variable {r : Option Nat} {P : Program} {Q : Exit → Act → World → Prop} {N : Nat} {D : List Deferred} {B : Nat} {w0 : World} {L : Env} {H : Hp} {ops : Array Oper} {rest : List Oper}
variable {d : Nat} {ty : TypeId} {pos : String} {aft : Array Edge}
theorem run_eqS {t : TypeId} {lv n : Nat} {z : List Value} [ht : TyP P t n true z] [he : EqP P t lv n] {vs us : List Value} {xs ys : List Int} (hlv : Nat.ble lv 10000 = true) (hz : z = List.replicate n (.int .i64 0)) (h1 : intsOf vs = some xs) (h2 : intsOf us = some ys) (hn1 : xs.length = n) (hn2 : ys.length = n) (w : World) :
    (Op.equalIn 10000 t (.agg vs.toArray) (.agg us.toArray)).run P w = .ok (decide (xs = ys)) w := by
  subst hz
  rw [intsOf_some h1, intsOf_some h2]
  exact he.run 10000 xs ys _ _ w (by simpa using hlv) hn1 hn2 ⟨true, ht, rfl, rfl⟩
theorem TL_eqlS {t t' : TypeId} {x y : Operand} {lv n : Nat} {z vs us : List Value} {xs ys : List Int} (hd : Nat.blt d N = true) [ht : TyP P t n true z] [he : EqP P t lv n] [hg : EqG P t] (hx : ev L x = some (.agg vs.toArray)) (hy : ev L y = some (.agg us.toArray))
    (h1 : intsOf vs = some xs) (h2 : intsOf us = some ys) (hlv : Nat.ble lv 10000 = true) (hz : z = List.replicate n (.int .i64 0)) (hn1 : xs.length = n) (hn2 : ys.length = n)
    (k : TL r P Q N D B w0 ((d, .bool (decide (xs = ys))) :: L) H ops rest) : TL r P Q N D B w0 L H ops (⟨some d, .binOp .eql t x y t', ty, pos, aft, none⟩ :: rest) :=
  TL_val (by simp) hd _ (fun a w hf _ => by
    have h := run_eqS (P := P) (t := t) hlv hz h1 h2 hn1 hn2 w
    simp [execOp, hf.ev hx, hf.ev hy, run_eqGuard_agg w .eql t x y _ _ hg.guard, run_eql_struct, h]) k
theorem TL_neqS {t t' : TypeId} {x y : Operand} {lv n : Nat} {z vs us : List Value} {xs ys : List Int} (hd : Nat.blt d N = true) [ht : TyP P t n true z] [he : EqP P t lv n] [hg : EqG P t] (hx : ev L x = some (.agg vs.toArray)) (hy : ev L y = some (.agg us.toArray))
    (h1 : intsOf vs = some xs) (h2 : intsOf us = some ys) (hlv : Nat.ble lv 10000 = true) (hz : z = List.replicate n (.int .i64 0)) (hn1 : xs.length = n) (hn2 : ys.length = n)
    (k : TL r P Q N D B w0 ((d, .bool (decide (xs ≠ ys))) :: L) H ops rest) : TL r P Q N D B w0 L H ops (⟨some d, .binOp .neq t x y t', ty, pos, aft, none⟩ :: rest) :=
  TL_val (by simp) hd _ (fun a w hf _ => by
    have h := run_eqS (P := P) (t := t) hlv hz h1 h2 hn1 hn2 w
    simp [execOp, hf.ev hx, hf.ev hy, run_eqGuard_agg w .neq t x y _ _ hg.guard, run_neq_struct, h]) k
/-- On truths. -/
theorem TL_eqlB {t t' : TypeId} {x y : Operand} {p q : Bool} (hd : Nat.blt d N = true) (hu : P.underlying t = some .bool) (hx : ev L x = some (.bool p)) (hy : ev L y = some (.bool q))
    (k : TL r P Q N D B w0 ((d, .bool (p == q)) :: L) H ops rest) : TL r P Q N D B w0 L H ops (⟨some d, .binOp .eql t x y t', ty, pos, aft, none⟩ :: rest) :=
  TL_val (by simp) hd _ (fun a w hf _ => by
    have h := run_equalIn_bool' (P := P) w 9999 t p q hu
    simp [execOp, hf.ev hx, hf.ev hy, eqGuard, binOp, Op.equal, Op.maxDepth, h]) k
theorem TL_neqB {t t' : TypeId} {x y : Operand} {p q : Bool} (hd : Nat.blt d N = true) (hu : P.underlying t = some .bool) (hx : ev L x = some (.bool p)) (hy : ev L y = some (.bool q))
    (k : TL r P Q N D B w0 ((d, .bool (p != q)) :: L) H ops rest) : TL r P Q N D B w0 L H ops (⟨some d, .binOp .neq t x y t', ty, pos, aft, none⟩ :: rest) :=
  TL_val (by simp) hd _ (fun a w hf _ => by
    have h := run_equalIn_bool' (P := P) w 9999 t p q hu
    simp [execOp, hf.ev hx, hf.ev hy, eqGuard, binOp, Op.equal, Op.maxDepth, h]
    cases p <;> cases q <;> rfl) k
end
end Go.Eng
