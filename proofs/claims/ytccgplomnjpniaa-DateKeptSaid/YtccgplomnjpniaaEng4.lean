/- The engine, part 4: composite values, slices. -/
import Derived.Test.YtccgplomnjpniaaEng3
namespace Go.Eng
open Go Go.RowKit
set_option linter.unusedVariables false
set_option linter.unusedSimpArgs false

/-! ### Struct literals, slice literals -/
def plL (P : Program) (fs : List Field) : Option (List (Nat × Nat)) := fs.mapM fun f => (P.info? f.type).map fun i => (f.offset, i.size)
class StP (P : Program) (t : TypeId) (z : outParam (List Value)) (fo : outParam (List (Nat × Nat))) : Prop where
  zero : ∃ i v, P.info? t = some i ∧ i.zero = some v ∧ v.cells = z.toArray
  fields : ∃ fs : Array Field, P.underlying t = some (.struct fs) ∧ plL P fs.toList = some fo
theorem StP.mk' {P : Program} {t : TypeId} {sz : Nat} {ag : Bool} {z : List Value} {fs : Array Field} {fo : List (Nat × Nat)} (h : TyP P t sz ag z) (hu : P.underlying t = some (.struct fs)) (hp : plL P fs.toList = some fo) : StP P t z fo :=
  ⟨let ⟨i, v, h1, _, h3, h4⟩ := h.info; ⟨i, v, h1, h3, h4⟩, fs, hu, hp⟩
/-- An array type: its zero cells, its elements' places. -/
class ArP (P : Program) (t : TypeId) (z : outParam (List Value)) (n sz : outParam Nat) : Prop where
  zero : ∃ i v, P.info? t = some i ∧ i.zero = some v ∧ v.cells = z.toArray
  elem : ∃ e i, P.underlying t = some (.array n e) ∧ P.info? e = some i ∧ i.size = sz
theorem ArP.mk' {P : Program} {t e : TypeId} {sz sz' n : Nat} {ag ag' : Bool} {z z' : List Value} (h : TyP P t sz ag z) (hu : P.underlying t = some (.array n e)) (he : TyP P e sz' ag' z') : ArP P t z n sz' :=
  ⟨let ⟨i, v, h1, _, h3, h4⟩ := h.info; ⟨i, v, h1, h3, h4⟩, let ⟨i, _, h1, h2, _, _⟩ := he.info; ⟨e, i, hu, h1, h2⟩⟩

def fillP (fo : Nat → Option (Nat × Nat)) : List Value → List (Nat × Value) → Option (List Value)
  | z, [] => some z
  | z, p :: ps => match fo p.1 with
    | none => none
    | some q => match Nat.beq p.2.cells.size q.2 with
      | true => match putN q.1 p.2.cells.toList z with
        | some z' => fillP fo z' ps
        | none => none
      | false => none

theorem foldl_set (off : Nat) : ∀ (vs : List Value) (k : Nat) (z : List Value), off + k + vs.length ≤ z.length →
    ((vs.zipIdx k).foldl (fun (cs : Array Value) (p : Value × Nat) => cs.setIfInBounds (off + p.2) p.1) z.toArray) = (z.take (off + k) ++ vs ++ z.drop (off + k + vs.length)).toArray := by
  intro vs
  induction vs with
  | nil => intro k z _; simp
  | cons v vs ih =>
    intro k z hz
    simp only [List.length_cons] at hz
    simp only [List.zipIdx_cons, List.foldl_cons, List.setIfInBounds_toArray]
    rw [ih (k + 1) (z.set (off + k) v) (by simp; omega)]
    congr 1
    apply List.ext_getElem?
    intro i
    have hlen : (List.take (off + (k + 1)) (z.set (off + k) v)).length = off + k + 1 := by simp; omega
    have hlen2 : (List.take (off + k) z).length = off + k := by simp; omega
    rcases Nat.lt_or_ge i (off + k) with h1 | h1
    · rw [List.append_assoc, List.append_assoc, List.getElem?_append_left (by omega), List.getElem?_append_left (by omega)]
      simp [List.getElem?_take, show i < off + (k + 1) by omega, h1, List.getElem?_set, show ¬ off + k = i by omega]
    · rcases Nat.eq_or_lt_of_le h1 with h2 | h2
      · subst h2
        rw [List.append_assoc, List.append_assoc, List.getElem?_append_left (by omega), List.getElem?_append_right (by omega), hlen2]
        simp [List.getElem?_take, List.getElem?_set, show off + k < z.length by omega, show off + k < off + (k + 1) by omega]
      · have e1 : ((List.take (off + (k + 1)) (z.set (off + k) v)) ++ vs ++ List.drop (off + (k + 1) + vs.length) (z.set (off + k) v))[i]? = (vs ++ List.drop (off + (k + 1) + vs.length) (z.set (off + k) v))[i - (off + k + 1)]? := by
          rw [List.append_assoc, List.getElem?_append_right (by rw [hlen]; omega), hlen]
        have e2 : (List.take (off + k) z ++ v :: vs ++ List.drop (off + k + (v :: vs).length) z)[i]? = (vs ++ List.drop (off + k + (v :: vs).length) z)[i - (off + k + 1)]? := by
          rw [List.append_assoc, List.getElem?_append_right (by rw [hlen2]; omega), hlen2, show i - (off + k) = (i - (off + k + 1)) + 1 by omega, List.cons_append, List.getElem?_cons_succ]
        rw [e1, e2]
        rcases Nat.lt_or_ge (i - (off + k + 1)) vs.length with h3 | h3
        · rw [List.getElem?_append_left h3, List.getElem?_append_left h3]
        · rw [List.getElem?_append_right h3, List.getElem?_append_right h3]
          simp only [List.getElem?_drop, List.length_cons]
          rw [List.getElem?_set_ne (by omega)]
          congr 1; omega

theorem fill_eq {place : Nat → Option (Nat × Nat)} : ∀ {ps : List (Nat × Value)} {z k : List Value}, fillP place z ps = some k → Instr.fill place z.toArray ps = some k.toArray := by
  intro ps
  induction ps with
  | nil => intro z k h; simp [fillP] at h; simp [Instr.fill, h]
  | cons p ps ih =>
    obtain ⟨i, v⟩ := p
    intro z k h
    simp only [fillP] at h
    split at h
    · cases h
    · rename_i q hq
      split at h
      · rename_i hb
        split at h
        · rename_i z' hz'
          have hsz : v.cells.size = q.2 := by simpa using hb
          obtain ⟨h1, h2⟩ := putN_some hz'
          have hl : v.cells.toList.length = v.cells.size := by simp
          simp only [Instr.fill, hq]
          rw [if_neg (by simp [hsz]; simp at h2; omega)]
          rw [← ih h]
          congr 1
          have := foldl_set q.1 v.cells.toList 0 z (by simpa using h2)
          simp only [Nat.add_zero] at this
          rw [h1, ← this, ← Array.foldl_toList]
          congr 1
          simp [Array.toList_zipIdx]
        · cases h
      · cases h

def evP (L : Env) : List (Nat × Operand) → Option (List (Nat × Value))
  | [] => some []
  | p :: ps => match ev L p.2 with
    | some v => match evP L ps with
      | some vs => some ((p.1, v) :: vs)
      | none => none
    | none => none

section
variable {r : Option Nat} {P : Program} {Q : Exit → Act → World → Prop} {N : Nat} {D : List Deferred} {B : Nat} {w0 : World} {L : Env} {H : Hp} {ops : Array Oper} {rest : List Oper}
variable {d : Nat} {ty : TypeId} {pos : String} {aft : Array Edge}

theorem evP_spec {a : Act} (hf : Fr N D L a) : ∀ {ps : List (Nat × Operand)} {vs : List (Nat × Value)}, evP L ps = some vs → ps.map (fun p => (p.1, a.eval p.2)) = vs := by
  intro ps
  induction ps with
  | nil => intro vs h; simp [evP] at h; simp [h]
  | cons p ps ih =>
    intro vs h
    simp only [evP] at h
    split at h
    · rename_i v hv
      split at h
      · rename_i vs' hvs
        cases h
        simp [hf.ev hv, ih hvs]
      · cases h
    · cases h

theorem run_places {fs : List Field} {fo : List (Nat × Nat)} (h : plL P fs = some fo) (w : World) :
    (fs.toArray.mapM (fun f => (do pure (f.offset, ← sizeOf f.type) : Sem (Nat × Nat)))).run P w = .ok fo.toArray w := by
  rw [List.mapM_toArray]
  have key : ∀ (fs : List Field) (fo : List (Nat × Nat)), plL P fs = some fo → (fs.mapM (fun f => (do pure (f.offset, ← sizeOf f.type) : Sem (Nat × Nat)))).run P w = .ok fo w := by
    intro fs
    induction fs with
    | nil => intro fo h; simp [plL] at h; subst h; rfl
    | cons f fs ih =>
      intro fo h
      simp only [plL, List.mapM_cons, Option.pure_def, Option.bind_eq_bind, Option.bind_eq_some_iff] at h
      obtain ⟨q, h1, fo', h2, h3⟩ := h
      cases h3
      obtain ⟨i, hi, hq⟩ := Option.map_eq_some_iff.1 h1
      have := ih fo' h2
      simp [List.mapM_cons, sizeOf, typeInfo, hi, this, hq]
      simp [sizeOf, typeInfo] at this
      simp [this, hq]
  have := key fs fo h
  rw [Sem.run_map, this]
  rfl

theorem TL_build {t : TypeId} {parts : List (Nat × Operand)} {z vs : List Value} {ps : List (Nat × Value)} {fo : List (Nat × Nat)} (hd : Nat.blt d N = true) [hS : StP P t z fo] (hp : evP L parts = some ps)
    (hv : fillP (fun i => fo[i]?) z ps = some vs) (k : TL r P Q N D B w0 ((d, .agg vs.toArray) :: L) H ops rest) : TL r P Q N D B w0 L H ops (⟨some d, .build t parts.toArray, ty, pos, aft, none⟩ :: rest) :=
  TL_val (by simp) hd _ (fun a w hf _ => by
    obtain ⟨i, v, hi, hz, hc⟩ := hS.zero
    obtain ⟨fs, hu, hpl⟩ := hS.fields
    have h1 := run_places hpl w
    have h2 := evP_spec hf hp
    have h3 := fill_eq hv
    have e1 : (List.map (fun (x : Nat × Operand) => (x.1, a.eval x.2)) parts) = ps := h2
    simp only [Array.toArray_toList] at h1
    have h4 : (Array.mapM (fun (f : Field) => Prod.mk f.offset <$> sizeOf f.type) fs).run P w = .ok fo.toArray w := by
      rw [← h1]; rfl
    simp [execOp, Instr.build, zeroValue, typeInfo, hi, hz, hc, run_underlying hu, h4, e1, h3]) k
theorem TL_buildA {t : TypeId} {parts : List (Nat × Operand)} {z vs : List Value} {ps : List (Nat × Value)} {n sz : Nat} (hd : Nat.blt d N = true) [hS : ArP P t z n sz] (hp : evP L parts = some ps)
    (hv : fillP (fun i => some (i * sz, sz)) z ps = some vs) (k : TL r P Q N D B w0 ((d, .agg vs.toArray) :: L) H ops rest) : TL r P Q N D B w0 L H ops (⟨some d, .build t parts.toArray, ty, pos, aft, none⟩ :: rest) :=
  TL_val (by simp) hd _ (fun a w hf _ => by
    obtain ⟨i, v, hi, hz, hc⟩ := hS.zero
    obtain ⟨e, j, hu, hj, hsz⟩ := hS.elem
    have e1 := evP_spec hf hp
    have h3 := fill_eq hv
    simp [execOp, Instr.build, zeroValue, sizeOf, typeInfo, hi, hz, hc, run_underlying hu, hj, hsz, e1, h3]) k

/-- n times the cells z. -/
def repN : Nat → List Value → List Value
  | 0, _ => []
  | n + 1, z => z ++ repN n z
theorem repN_length (n : Nat) (z : List Value) : (repN n z).length = n * z.length := by
  induction n with
  | zero => simp [repN]
  | succ n ih => simp [repN, ih, Nat.add_mul, Nat.add_comm]
theorem repN_get (n : Nat) (z : List Value) (i : Nat) (hi : i < n * z.length) : (repN n z)[i]? = z[i % z.length]? := by
  induction n generalizing i with
  | zero => simp at hi
  | succ n ih =>
    simp only [repN]
    rcases Nat.lt_or_ge i z.length with h | h
    · rw [List.getElem?_append_left h, Nat.mod_eq_of_lt h]
    · rw [List.getElem?_append_right h, ih _ (by rw [Nat.add_mul] at hi; omega)]
      congr 1
      rw [Nat.mod_eq_sub_mod h]
theorem repN_range (n : Nat) (z : List Value) : ((Array.range (n * z.length)).map (fun i => z.toArray[i % z.toArray.size]!)) = (repN n z).toArray := by
  apply Array.ext
  · simp [repN_length]
  · intro i h1 h2
    simp only [Array.size_map, Array.size_range] at h1
    simp only [Array.getElem_map, Array.getElem_range, List.size_toArray, List.getElem_toArray]
    have := repN_get n z i h1
    have hz : i % z.length < z.length := Nat.mod_lt _ (by
      rcases Nat.eq_zero_or_pos z.length with h | h
      · rw [h] at h1; simp at h1
      · exact h)
    rw [List.getElem?_eq_getElem (by rw [repN_length]; exact h1), List.getElem?_eq_getElem hz] at this
    have := Option.some.inj this
    rw [this]
    simp [hz]

theorem TL_buildSlice {t e : TypeId} {len : Nat} {parts : List (Nat × Operand)} {sz : Nat} {ag : Bool} {z vs : List Value} {ps : List (Nat × Value)} (hd : Nat.blt d N = true) [hu : SlcP P t e] [he : TyP P e sz ag z] (hzl : z.length = sz)
    (hp : evP L parts = some ps) (hlen : Nat.ble (len * sz) 16777216 = true) (hv : fillP (fun i => some (i * sz, sz)) (repN len z) ps = some vs)
    (k : ∀ b, B ≤ b → TL r P Q N D B w0 ((d, .slice (some ⟨b, 0, none⟩) len len) :: L) ((b, .cells vs e) :: H) ops rest) : TL r P Q N D B w0 L H ops (⟨some d, .buildSlice t len parts.toArray, ty, pos, aft, none⟩ :: rest) :=
  TL_valw (by simp) hd (fun b : Nat => .slice (some ⟨b, 0, none⟩) len len) (fun b => (b, .cells vs e) :: H) (fun b => B ≤ b) (fun a w hf hs => ⟨w.heap.size, w.alloc (Blk.cells vs e).toObj, hs.hB, by
    obtain ⟨i, v, hi, hsz, hz, hc⟩ := he.info
    have e1 := evP_spec hf hp
    have h3 := fill_eq hv
    have hle : ¬ (16777216 < len * sz) := by simp at hlen; omega
    have hr := repN_range len z
    rw [hzl] at hr
    by_cases h0 : len * sz = 0
    · have e0 : repN len z = [] := List.eq_nil_of_length_eq_zero (by rw [repN_length, hzl, h0])
      rw [e0] at h3
      have h3' : Instr.fill (fun i => some (i * sz, sz)) (Array.map (fun _ => default) (Array.range 0)) ps = some vs.toArray := by
        have er : Array.range 0 = #[] := Array.eq_empty_of_size_eq_zero (by simp)
        rw [er, Array.map_empty]; exact h3
      simp [execOp, Instr.buildSlice, run_underlying hu.u, sizeOf, typeInfo, hi, hsz, h0, e1, h3', newRow, Blk.toObj]
    · simp only [execOp, Instr.buildSlice, Sem.run_bind, run_underlying hu.u, Result.andThen, sizeOf, typeInfo, program, Sem.run, hi, hsz, Sem.run_pure]
      simp only [List.map_toArray]
      rw [show (2 : Nat) ^ 24 = 16777216 from rfl, if_neg (by simpa using hle)]
      simp only [h0, if_false, zeroValue, typeInfo, program, Sem.run_pure, Sem.run_bind, Sem.run, hi, hz, hc, Result.andThen, hr, e1, h3, newRow, run_newObj_alloc, Blk.toObj], hs.alloc _⟩) k
end
end Go.Eng
