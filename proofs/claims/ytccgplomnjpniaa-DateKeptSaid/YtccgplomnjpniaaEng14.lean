/- The engine, part 14: new variables in drawn regions, nil checks, slices with bounds, maps with numbers as keys. -/
import Derived.Test.YtccgplomnjpniaaEng13
import Derived.ChangeKeysEq
namespace Go.Eng
open Go Go.RowKit
set_option linter.unusedVariables false
set_option linter.unusedSimpArgs false

class MapP (P : Program) (t : TypeId) (k e : outParam TypeId) : Prop where
  u : P.underlying t = some (.map k e)
class PtrP (P : Program) (t : TypeId) (e : outParam TypeId) : Prop where
  u : P.underlying t = some (.pointer e)
theorem AllF.all (Fs : List Fact) : ∀ (K : Env → Hp → Prop), (∀ E G, K E G) → AllF Fs K := by
  induction Fs with
  | nil => intro K h; exact h _ _
  | cons q Fs ih => intro K h v g _; exact ih _ (fun E G => h _ _)

section
variable {r : Option Nat} {P : Program} {Q : Exit → Act → World → Prop} {N : Nat} {D : List Deferred} {B : Nat} {w0 : World} {L : Env} {H : Hp} {ops : Array Oper} {rest : List Oper} {cb : Hp} {u : Nat}
/-- A new variable laid ahead of the tail. -/
theorem pn {E : Env} {Fs : List Fact} {d : Nat} {ty : TypeId} {pos : String} {aft : Array Edge} {ps : List (Nat × Post)} {t : TypeId} {sz : Nat} {ag : Bool} {z : List Value} [ht : TyP P t sz ag z]
    (k : PG r P N D B w0 H ops rest E ((d, isNew B z t) :: Fs) ps) (hd : Nat.blt d N = true := by exact rfl) :
    PG r P N D B w0 H ops (⟨some d, .alloc t, ty, pos, aft, none⟩ :: rest) E Fs ((d, .rel (isNew B z t)) :: ps) :=
  PG.rel _ rfl hd (AllF.all _ _ fun E' G X => TL_alloc hd fun b hb => TL_nil (TQ_QR (h := [(b, .cells z t)]) (v := .pointer (some ⟨b, 0, none⟩)) (lk_cons_same _ _ _) ⟨b, hb, rfl, rfl⟩ (fun _ h => h))) k
theorem pn2 {E : Env} {Fs : List Fact} {d : Nat} {ty : TypeId} {pos : String} {aft : Array Edge} {ps : List (Nat × Post)} {t : TypeId} {sz : Nat} {ag : Bool} {z : List Value} [ht : TyP P t sz ag z]
    (k : PG2 r P N D B w0 H cb u ops rest E ((d, isNew B z t) :: Fs) ps) (hd : Nat.blt d N = true := by exact rfl) :
    PG2 r P N D B w0 H cb u ops (⟨some d, .alloc t, ty, pos, aft, none⟩ :: rest) E Fs ((d, .rel (isNew B z t)) :: ps) :=
  PG2.rel _ rfl hd (AllF.all _ _ fun E' G X => TL_alloc hd fun b hb => TL_nil (TQ_QR (h := [(b, .cells z t)]) (v := .pointer (some ⟨b, 0, none⟩)) (lk_cons_same _ _ _) ⟨b, hb, rfl, rfl⟩ (fun _ h => h))) k

variable {d : Nat} {ty : TypeId} {pos : String} {aft : Array Edge}
theorem TL_nilCheck {x : Operand} {a : Addr} (hd : Nat.blt d N = true) (hx : ev L x = some (.pointer (some a)))
    (k : TL r P Q N D B w0 ((d, .pointer (some a)) :: L) H ops rest) : TL r P Q N D B w0 L H ops (⟨some d, .nilCheck x, ty, pos, aft, none⟩ :: rest) :=
  TL_val (by simp) hd _ (fun a w hf _ => by simp [execOp, hf.ev hx]) k

theorem sliceBound_run {kd : IntKind} {m : Int} {i y : Nat} {code : BoundsCode} (hm : m = (i : Int)) (hi : i ≤ y) (w : World) : (Instr.sliceBound (.int kd m) y code).run P w = .ok i w := by
  subst hm
  simp [Instr.sliceBound, asIntOf, hi]
/-- Part of an array, as a slice. -/
theorem TL_sliceA2 {t e : TypeId} {x y1 y2 : Operand} {n : Nat} {sz : Nat} {ag : Bool} {z : List Value} {b o : Nat} {k1 k2 : IntKind} {m1 m2 : Int} (i j : Nat) (hd : Nat.blt d N = true) [hu : AryP P t n e] [he : TyP P e sz ag z]
    (hx : ev L x = some (.pointer (some ⟨b, o, none⟩))) (h1 : ev L y1 = some (.int k1 m1)) (h2 : ev L y2 = some (.int k2 m2)) (e1 : m1 = (i : Int)) (e2 : m2 = (j : Int)) (hij : i ≤ j) (hjn : j ≤ n) (hin : i < n)
    (k : TL r P Q N D B w0 ((d, .slice (some ⟨b, o + i * sz, none⟩) (j - i) (n - i)) :: L) H ops rest) : TL r P Q N D B w0 L H ops (⟨some d, .slice t x (some y1) (some y2) none, ty, pos, aft, none⟩ :: rest) :=
  TL_val (by simp) hd _ (fun a w hf _ => by
    obtain ⟨q, _, hj, hsz, _, _⟩ := he.info
    have g1 : (Go.sizeOf e).run P w = .ok sz w := by rw [run_sizeOf w hj]; simp [Program.cellsOf, hj, hsz]
    have hne : n ≠ i := by omega
    have s1 := fun c => sliceBound_run (P := P) (code := c) (kd := k2) e2 hjn w
    have s2 := fun c => sliceBound_run (P := P) (code := c) (kd := k1) e1 hij w
    simp [execOp, hf.ev hx, hf.ev h1, hf.ev h2, Instr.sliceAt, run_underlying hu.u, Instr.sureAddr, Instr.sliceBounds, g1, hne, add_plain', s1, s2]) k
/-- Part of a slice. -/
theorem TL_slice2 {t e : TypeId} {x y1 y2 : Operand} {sz : Nat} {ag : Bool} {z : List Value} {ao : Option Addr} {n c : Nat} {k1 k2 : IntKind} {m1 m2 : Int} (i j : Nat) (hd : Nat.blt d N = true) [hu : SlcP P t e] [he : TyP P e sz ag z]
    (hx : ev L x = some (.slice ao n c)) (h1 : ev L y1 = some (.int k1 m1)) (h2 : ev L y2 = some (.int k2 m2)) (e1 : m1 = (i : Int)) (e2 : m2 = (j : Int)) (hij : i ≤ j) (hjn : j ≤ c)
    (k : TL r P Q N D B w0 ((d, .slice (if c = i then ao else ao.map (·.add (i * sz))) (j - i) (c - i)) :: L) H ops rest) : TL r P Q N D B w0 L H ops (⟨some d, .slice t x (some y1) (some y2) none, ty, pos, aft, none⟩ :: rest) :=
  TL_val (by simp) hd _ (fun a w hf _ => by
    obtain ⟨q, _, hj, hsz, _, _⟩ := he.info
    have g1 : (Go.sizeOf e).run P w = .ok sz w := by rw [run_sizeOf w hj]; simp [Program.cellsOf, hj, hsz]
    have s1 := fun c => sliceBound_run (P := P) (code := c) (kd := k2) e2 hjn w
    have s2 := fun c => sliceBound_run (P := P) (code := c) (kd := k1) e1 hij w
    simp [execOp, hf.ev hx, hf.ev h1, hf.ev h2, Instr.sliceAt, Instr.slice, run_underlying hu.u, Instr.sliceBounds, g1, s1, s2]) k
end

/-! ### Maps with numbers as keys -/
def mget (kd : IntKind) : List MapEntry → Int → Option Value
  | [], _ => none
  | e :: es, k => match e.key with
    | .int kd' m => if kd' = kd ∧ m = k then some e.val else mget kd es k
    | _ => mget kd es k
/-- The entries es stand for f. -/
structure MR (kd : IntKind) (es : List MapEntry) (f : Int → Option Value) : Prop where
  keys : ∀ e ∈ es, ∃ m, e.key = .int kd m
  get : ∀ k, mget kd es k = f k
def fupd (f : Int → Option Value) (k : Int) (v : Value) : Int → Option Value := fun j => if j = k then some v else f j
def fdel (f : Int → Option Value) (k : Int) : Int → Option Value := fun j => if j = k then none else f j
theorem MR.nil {kd : IntKind} : MR kd [] (fun _ => none) := ⟨fun e h => (by cases h), fun _ => rfl⟩

theorem findNow_int {kd : IntKind} (k : Int) : ∀ (es : List MapEntry) (i : Nat), (∀ e ∈ es, ∃ m, e.key = .int kd m) →
    (∃ j e, es[j]? = some e ∧ e.key = .int kd k ∧ mget kd es k = some e.val ∧ Instr.findNow (.int kd) (.int kd k) es i = some (some (i + j, e.val)) ∧ ∀ q x, q < j → es[q]? = some x → x.key ≠ .int kd k) ∨
    (mget kd es k = none ∧ Instr.findNow (.int kd) (.int kd k) es i = some none ∧ ∀ e ∈ es, e.key ≠ .int kd k) := by
  intro es
  induction es with
  | nil => intro i _; exact .inr ⟨rfl, rfl, fun e h => by cases h⟩
  | cons e es ih =>
    intro i h
    obtain ⟨m, hm⟩ := h e List.mem_cons_self
    by_cases hk : m = k
    · subst hk
      refine .inl ⟨0, e, rfl, hm, ?_, ?_, fun q x hq => by omega⟩
      · simp [mget, hm]
      · simp [Instr.findNow, hm, Instr.sameNow]
    · have hk' : ¬ k = m := fun e => hk e.symm
      have e1 : mget kd (e :: es) k = mget kd es k := by simp [mget, hm, hk]
      have e2 : Instr.findNow (.int kd) (.int kd k) (e :: es) i = Instr.findNow (.int kd) (.int kd k) es (i + 1) := by
        have hkm : (k == m) = false := by simpa using hk'
        simp [Instr.findNow, hm, Instr.sameNow, hkm]
      rcases ih (i + 1) (fun x hx => h x (List.mem_cons_of_mem _ hx)) with ⟨j, x, h1, h2, h3, h4, h5⟩ | ⟨h1, h2, h3⟩
      · refine .inl ⟨j + 1, x, by simpa using h1, h2, by rw [e1]; exact h3, by rw [e2, h4, show i + 1 + j = i + (j + 1) by omega], fun q y hq hy => ?_⟩
        cases q with
        | zero => simp at hy; subst hy; rw [hm]; simpa using hk
        | succ q => exact h5 q y (by omega) (by simpa using hy)
      · refine .inr ⟨by rw [e1]; exact h1, by rw [e2]; exact h2, fun x hx => ?_⟩
        rcases List.mem_cons.1 hx with rfl | hx
        · rw [hm]; simpa using hk
        · exact h3 x hx

theorem mget_modify {kd : IntKind} (k : Int) (v : Value) : ∀ (es : List MapEntry) (j : Nat) (e : MapEntry), (∀ e ∈ es, ∃ m, e.key = .int kd m) → es[j]? = some e → e.key = .int kd k → (∀ q x, q < j → es[q]? = some x → x.key ≠ .int kd k) →
    ∀ k', mget kd (es.modify j fun e => { e with key := .int kd k, val := v }) k' = if k' = k then some v else mget kd es k' := by
  intro es
  induction es with
  | nil => intro j e _ h; simp at h
  | cons x es ih =>
    intro j e hk hj hek hb k'
    obtain ⟨m, hm⟩ := hk x List.mem_cons_self
    cases j with
    | zero =>
      simp at hj; subst hj
      rw [hek] at hm; cases hm
      simp only [List.modify_zero_cons, mget, hek]
      by_cases h : k' = k
      · subst h; simp
      · have : ¬ k = k' := fun e => h e.symm
        simp [h, this]
    | succ j =>
      have hmk : m ≠ k := by
        have := hb 0 x (by omega) rfl
        rw [hm] at this
        simpa using this
      rw [List.modify_succ_cons]
      have := ih j e (fun y hy => hk y (List.mem_cons_of_mem _ hy)) (by simpa using hj) hek (fun q y hq hy => hb (q + 1) y (by omega) (by simpa using hy)) k'
      simp only [mget, hm, this]
      by_cases h : k' = k
      · subst h; simp [hmk]
      · simp [h]
theorem mget_push {kd : IntKind} (k : Int) (v : Value) (n : Nat) : ∀ (es : List MapEntry), (∀ e ∈ es, ∃ m, e.key = .int kd m) → (∀ e ∈ es, e.key ≠ .int kd k) →
    ∀ k', mget kd (es ++ [{ key := .int kd k, val := v, born := n }]) k' = if k' = k then some v else mget kd es k' := by
  intro es
  induction es with
  | nil =>
    intro _ _ k'
    simp only [List.nil_append, mget]
    by_cases h : k' = k
    · subst h; simp
    · have : ¬ k = k' := fun e => h e.symm
      simp [h, this]
  | cons x es ih =>
    intro hk hb k'
    obtain ⟨m, hm⟩ := hk x List.mem_cons_self
    have hmk : m ≠ k := by
      have := hb x List.mem_cons_self
      rw [hm] at this
      simpa using this
    have := ih (fun y hy => hk y (List.mem_cons_of_mem _ hy)) (fun y hy => hb y (List.mem_cons_of_mem _ hy)) k'
    rw [List.cons_append]
    simp only [mget, hm, this]
    by_cases h : k' = k
    · subst h; simp [hmk]
    · simp [h]

section
variable {r : Option Nat} {P : Program} {Q : Exit → Act → World → Prop} {N : Nat} {D : List Deferred} {B : Nat} {w0 : World} {L : Env} {H : Hp} {ops : Array Oper} {rest : List Oper}
variable {d : Nat} {ty : TypeId} {pos : String} {aft : Array Edge}
theorem run_checkKey_int {kt : TypeId} {kd : IntKind} [hk : IntP P kt kd] (b : Bool) (k : Int) (w : World) : (Instr.checkKey b 10000 kt (.int kd k)).run P w = .ok () w := by
  have : ∀ n, (Instr.checkKey b (n + 1) kt (.int kd k)).run P w = .ok () w := fun n => by
    rw [Instr.checkKey]
    simp [run_underlying hk.u]
  exact this 9999
theorem TL_makeMap {t : TypeId} (hd : Nat.blt d N = true) (k : ∀ b, B ≤ b → TL r P Q N D B w0 ((d, .map (some b)) :: L) ((b, .obj (.map #[] 0)) :: H) ops rest) : TL r P Q N D B w0 L H ops (⟨some d, .makeMap t none, ty, pos, aft, none⟩ :: rest) :=
  TL_valw (by simp) hd (fun b : Nat => .map (some b)) (fun b => (b, .obj (.map #[] 0)) :: H) (fun b => B ≤ b) (fun a w hf hs => ⟨w.heap.size, w.alloc (Blk.obj (.map #[] 0)).toObj, hs.hB, by
    simp [execOp, Instr.makeMap, Blk.toObj], hs.alloc _⟩) k
theorem run_mapUpdate {t kt e : TypeId} {kd : IntKind} [hm : MapP P t kt e] [hk : IntP P kt kd] {b : Nat} {es : Array MapEntry} {clk : Nat} {f : Int → Option Value} (hr : MR kd es.toList f) {key : Int} {v : Value} {w : World} (hb : w.heap[b]? = some (.map es clk)) :
    ∃ es' clk', MR kd es'.toList (fupd f key v) ∧ (Instr.mapUpdate t (.map (some b)) (.int kd key) v).run P w = .ok () (w.putObj b (.map es' clk')) := by
  have hget : (getObj b).run P w = .ok (.map es clk) w := by simp [getObj, Sem.run, hb]
  have hset : ∀ o, (setObj b o).run P w = .ok () (w.putObj b o) := fun o => by simp [setObj, Sem.run, hb, World.putObj]
  rcases findNow_int key es.toList 0 hr.keys with ⟨j, x, h1, h2, h3, h4, h5⟩ | ⟨h1, h2, h3⟩
  · refine ⟨es.modify j fun e => { e with key := .int kd key, val := v }, clk, ⟨fun e' he' => ?_, fun k' => ?_⟩, ?_⟩
    · rw [Array.toList_modify] at he'
      obtain ⟨q, hq⟩ := List.getElem?_of_mem he'
      rw [List.getElem?_modify] at hq
      split at hq
      · obtain ⟨y, hy, rfl⟩ := Option.map_eq_some_iff.1 hq
        exact ⟨key, rfl⟩
      · simp at hq
        exact hr.keys e' (List.mem_of_getElem? (by simpa using hq))
    · rw [Array.toList_modify, mget_modify key v es.toList j x hr.keys h1 h2 h5 k', hr.get]; rfl
    · have h1' : es[j]? = some x := by simpa using h1
      have hkts : (Instr.keyThatStays (Value.int kd key) (Value.int kd key)).run P w = .ok (.int kd key) w := by
        simp [Instr.keyThatStays, Instr.sameBits]
      simp [Instr.mapUpdate, run_underlying hm.u, hget, run_checkKey_int, Instr.findKey, run_underlying hk.u, h4, h1', h2, hkts, hset]
  · refine ⟨es.push { key := .int kd key, val := v, born := clk }, clk + 1, ⟨fun e' he' => ?_, fun k' => ?_⟩, ?_⟩
    · rw [Array.toList_push] at he'
      rcases List.mem_append.1 he' with h | h
      · exact hr.keys e' h
      · rw [List.mem_singleton] at h; subst h; exact ⟨key, rfl⟩
    · rw [Array.toList_push, mget_push key v clk es.toList hr.keys h3 k', hr.get]; rfl
    · simp [Instr.mapUpdate, run_underlying hm.u, hget, run_checkKey_int, Instr.findKey, run_underlying hk.u, h2, hset]
theorem TL_mapSet {o : Op} {t kt e : TypeId} {kd : IntKind} {x y z : Operand} (ho : o = .mapUpdate t x y z ∨ o = .insert t x y z) [hm : MapP P t kt e] [hk : IntP P kt kd] {b : Nat} {es : Array MapEntry} {clk : Nat} {f : Int → Option Value} {key : Int} {v : Value} {H' : Array MapEntry → Nat → Hp}
    (hx : ev L x = some (.map (some b))) (hy : ev L y = some (.int kd key)) (hz : ev L z = some v) (hu : ∀ es' clk', Upd H b (.obj (.map es clk)) (.obj (.map es' clk')) (H' es' clk')) (hr : MR kd es.toList f)
    (k : ∀ es' clk', MR kd (Array.toList es') (fupd f key v) → TL r P Q N D B w0 L (H' es' clk') ops rest) : TL r P Q N D B w0 L H ops (⟨none, o, ty, pos, aft, none⟩ :: rest) := by
  refine TL_run rfl (by rcases ho with rfl | rfl <;> simp) fun a w hf hs => ?_
  obtain ⟨es', clk', h1, h2⟩ := run_mapUpdate (P := P) (t := t) hr (key := key) (v := v) (hs.holds b _ (hu es clk).mem).2
  have e : (execOp a.eval ⟨none, o, ty, pos, aft, none⟩).run P w = .ok .skip (w.putObj b (.map es' clk')) := by
    rcases ho with rfl | rfl <;> simp [execOp, hf.ev hx, hf.ev hy, hf.ev hz, h2]
  rw [e]
  exact k es' clk' h1 _ _ hf (hs.putObj _ (hu es' clk'))
theorem run_lookup {t kt e : TypeId} {kd : IntKind} [hm : MapP P t kt e] [hk : IntP P kt kd] {b : Nat} {es : Array MapEntry} {clk : Nat} {f : Int → Option Value} (hr : MR kd es.toList f) {key : Int} {z : Value} {w : World} (hb : w.heap[b]? = some (.map es clk)) (hz : (zeroValue e).run P w = .ok z w) :
    (Instr.lookup t (.map (some b)) (.int kd key) false).run P w = .ok ((f key).getD z) w := by
  have hget : (getObj b).run P w = .ok (.map es clk) w := by simp [getObj, Sem.run, hb]
  have hg := hr.get key
  rcases findNow_int key es.toList 0 hr.keys with ⟨j, x, h1, h2, h3, h4, h5⟩ | ⟨h1, h2, h3⟩
  · rw [h3] at hg
    simp [Instr.lookup, run_underlying hm.u, hget, run_checkKey_int, Instr.findKey, run_underlying hk.u, h4, ← hg]
  · rw [h1] at hg
    simp [Instr.lookup, run_underlying hm.u, hget, run_checkKey_int, Instr.findKey, run_underlying hk.u, h2, ← hg, hz]
theorem run_zero_ag {e : TypeId} {sz : Nat} {ag : Bool} {zz : List Value} [he : TyP P e sz ag zz] (w : World) : ∃ z, (zeroValue e).run P w = .ok z w ∧ z.cells = zz.toArray := by
  obtain ⟨i, v, hi, _, hz, hc⟩ := he.info
  exact ⟨v, by simp [zeroValue, typeInfo, hi, hz], hc⟩
/-- A look-up of a key that is there. -/
theorem TL_lookup_some {t kt e : TypeId} {kd : IntKind} {sz : Nat} {ag : Bool} {zz : List Value} {x y : Operand} [hm : MapP P t kt e] [hk : IntP P kt kd] [he : TyP P e sz ag zz] {b : Nat} {es : Array MapEntry} {clk : Nat} {f : Int → Option Value} {key : Int} {v : Value} (hd : Nat.blt d N = true)
    (hx : ev L x = some (.map (some b))) (hy : ev L y = some (.int kd key)) (hb : (b, .obj (.map es clk)) ∈ H) (hr : MR kd es.toList f) (hf' : f key = some v)
    (k : TL r P Q N D B w0 ((d, v) :: L) H ops rest) : TL r P Q N D B w0 L H ops (⟨some d, .lookup t x y false, ty, pos, aft, none⟩ :: rest) :=
  TL_val (by simp) hd _ (fun a w hf hs => by
    obtain ⟨z, hz, _⟩ := run_zero_ag (P := P) (e := e) w
    have h := run_lookup (P := P) (t := t) hr (key := key) (hs.holds b _ hb).2 hz
    rw [hf'] at h
    simp [execOp, hf.ev hx, hf.ev hy, h]) k
/-- A look-up, whatever is there. -/
theorem TL_lookup {t kt e : TypeId} {kd : IntKind} {x y : Operand} [hm : MapP P t kt e] [hk : IntP P kt kd] {b : Nat} {es : Array MapEntry} {clk : Nat} {f : Int → Option Value} {key : Int} {z v : Value} (hd : Nat.blt d N = true)
    (hx : ev L x = some (.map (some b))) (hy : ev L y = some (.int kd key)) (hb : (b, .obj (.map es clk)) ∈ H) (hr : MR kd es.toList f) (hze : ∀ w, (zeroValue e).run P w = .ok z w) (hv : (f key).getD z = v)
    (k : TL r P Q N D B w0 ((d, v) :: L) H ops rest) : TL r P Q N D B w0 L H ops (⟨some d, .lookup t x y false, ty, pos, aft, none⟩ :: rest) :=
  TL_val (by simp) hd _ (fun a w hf hs => by
    have h := run_lookup (P := P) (t := t) hr (key := key) (hs.holds b _ hb).2 (hze w)
    rw [hv] at h
    simp [execOp, hf.ev hx, hf.ev hy, h]) k
/-- .. in no map. -/
theorem TL_lookup_nil {t kt e : TypeId} {kd : IntKind} {x y : Operand} [hm : MapP P t kt e] [hk : IntP P kt kd] {z : Value} {key : Int} (hd : Nat.blt d N = true)
    (hx : ev L x = some (.map none)) (hy : ev L y = some (.int kd key)) (hze : ∀ w, (zeroValue e).run P w = .ok z w)
    (k : TL r P Q N D B w0 ((d, z) :: L) H ops rest) : TL r P Q N D B w0 L H ops (⟨some d, .lookup t x y false, ty, pos, aft, none⟩ :: rest) :=
  TL_val (by simp) hd _ (fun a w hf hs => by
    have h : (Instr.lookup t (.map none) (.int kd key) false).run P w = .ok z w := by
      simp [Instr.lookup, run_underlying hm.u, run_checkKey_int, Instr.findKey, run_underlying hk.u, Instr.findNow, hze]
    simp [execOp, hf.ev hx, hf.ev hy, h]) k
/-- Ways that meet again ahead of y. -/
theorem TC_join {c y : Code} {σ : Type} (p : σ → Prop) (Lx : σ → Env) (Hx : σ → Hp) (h1 : TC r P (Exit.then (fun a w => ∃ s, p s ∧ Fr N D (Lx s) a ∧ SH B w0 w (Hx s)) Q) N D B w0 L H c)
    (h2 : ∀ s, p s → TC r P Q N D B w0 (Lx s) (Hx s) y) : TC r P (Exit.then (y.wpIn (FW r) 0 P Q) Q) N D B w0 L H c := fun a w hf hs =>
  wpIn_mono (h1 a w hf hs) fun e a' w' hq => by
    cases e with
    | normal => obtain ⟨s, hp, hf', hs'⟩ := hq; exact h2 s hp _ _ hf' hs'
    | _ => exact hq
/-- A call that turns block n of the heap. -/
def setAt : Nat → Nat × Blk → Hp → Hp
  | _, _, [] => []
  | 0, x, _ :: H => x :: H
  | n + 1, x, y :: H => y :: setAt n x H
theorem setAt_perm : ∀ (n : Nat) (H : Hp) (x y : Nat × Blk), atN n H = some x → (y :: dropAt n H).Perm (setAt n y H) := by
  intro n
  induction n with
  | zero => intro H x y h; cases H with
    | nil => cases h
    | cons z H => exact List.Perm.refl _
  | succ n ih => intro H x y h; cases H with
    | nil => cases h
    | cons z H => exact (List.Perm.swap z y _).trans ((ih H x y h).cons z)
theorem TL_callAt {d : Option Nat} {callee : Operand} {args : List Operand} {at_ : Array TypeId} {k : FuncId} {vs cl : List Value} {bk bk' : Nat × Blk} {v : Value} (n : Nat) (hx : ev L callee = some (.func (.func k) #[] cl.toArray)) (ha : evL L args = some vs) [hent : EntP P k] (hd : okD N d = true) (hn : atN n H = some bk)
    (hc : ∀ w, SH B w0 w (bk :: dropAt n H) → Calls P k (vs ++ cl).toArray w (RetP B w0 (fun _ : Unit => v) (fun _ => bk' :: dropAt n H) (fun _ => True)))
    (kk : TL r P Q N D B w0 (putE L d v) (setAt n bk' H) ops rest) :
    TL r P Q N D B w0 L H ops (⟨d, .call { callee := .value callee, args := args.toArray, argTypes := at_ }, ty, pos, aft, none⟩ :: rest) :=
  TL_call hx ha hd (fun _ : Unit => v) (fun _ => bk' :: dropAt n H) (fun _ => True) (fun w hs => hc w (hs.perm (dropAt_perm n H bk hn))) (fun _ _ => kk.weaken (Sub.refl _) (fun _ h => h.perm (setAt_perm n H bk bk' hn).symm))
end

/-! ### Comparing arrays of numbers -/
theorem run_eqItems_ints {P : Program} {e : TypeId} {k lv d : Nat} {ag : Bool} [he : TyP P e k ag (List.replicate k (.int .i64 0))] [heq : EqP P e lv k] (hk : (ag || k == 1) = true) (hd : lv ≤ d) {xs ys : List Int} (w : World) : ∀ (m off : Nat), (off + m) * k ≤ xs.length → (off + m) * k ≤ ys.length →
    (Op.eqItems d e k (encIs xs).toArray (encIs ys).toArray (List.range' off m)).run P w = .ok (decide ((xs.drop (off * k)).take (m * k) = (ys.drop (off * k)).take (m * k))) w := by
  have hag : ag = false → k = 1 := fun h => by subst h; simpa using hk
  intro m
  induction m with
  | zero => intro off _ _; simp [Op.eqItems]
  | succ m ih =>
    intro off hx hy
    have e1 : off * k + k ≤ (off + (m + 1)) * k := by
      rw [← Nat.succ_mul]; exact Nat.mul_le_mul_right _ (by omega)
    rw [List.range'_succ, Op.eqItems]
    simp only [Sem.run_bind, run_part_ints (ht := he) w (l := xs) (off := off * k) (k := k) (by omega) hag, run_part_ints (ht := he) w (l := ys) (off := off * k) (k := k) (by omega) hag, Result.andThen_ok]
    rw [heq.run d ((xs.drop (off * k)).take k) ((ys.drop (off * k)).take k) _ _ w hd (by simp; omega) (by simp; omega) ⟨ag, he, rfl, rfl⟩]
    simp only [Result.andThen_ok]
    have key : ∀ (l : List Int), (l.drop (off * k)).take ((m + 1) * k) = (l.drop (off * k)).take k ++ (l.drop ((off + 1) * k)).take (m * k) := fun l => by
      rw [show (m + 1) * k = k + m * k by rw [Nat.succ_mul]; omega, List.take_add, List.drop_drop, show off * k + k = (off + 1) * k by rw [Nat.succ_mul]]
    by_cases hh : (xs.drop (off * k)).take k = (ys.drop (off * k)).take k
    · simp only [hh, decide_true, Bool.not_true, Bool.false_eq_true, if_false]
      rw [ih (off + 1) (by rw [show off + 1 + m = off + (m + 1) by omega]; exact hx) (by rw [show off + 1 + m = off + (m + 1) by omega]; exact hy)]
      congr 2
      rw [eq_iff_iff, key xs, key ys, hh]
      constructor
      · intro h; rw [h]
      · intro h; exact List.append_cancel_left h
    · have : ¬ (xs.drop (off * k)).take ((m + 1) * k) = (ys.drop (off * k)).take ((m + 1) * k) := fun h => hh (by
        have h2 := congrArg (List.take k) h
        have h3 : ∀ l : List Int, (l.take ((m + 1) * k)).take k = l.take k := fun l => by
          rw [List.take_take, Nat.min_eq_left (by rw [Nat.succ_mul]; omega)]
        rwa [h3, h3] at h2)
      simp [hh, this]
theorem EqP.array {P : Program} {t e : TypeId} {n k nk lv : Nat} {ag : Bool} [ht : TyP P t nk true (List.replicate nk (.int .i64 0))] [he : TyP P e k ag (List.replicate k (.int .i64 0))] [heq : EqP P e lv k] (hu : P.underlying t = some (.array n e)) (hk : (ag || k == 1) = true) (hnk : n * k = nk) : EqP P t (lv + 1) nk := ⟨by
  intro d xs ys v u w hd ha hb ⟨ag', hag, hv, hu'⟩
  have : ag' = true := by
    have h1 := hag.ag w
    rw [ht.ag w] at h1
    simpa using h1.symm
  subst this
  subst hv hu'
  obtain ⟨d, rfl⟩ : ∃ e, d = e + 1 := ⟨d - 1, by omega⟩
  obtain ⟨i, _, hi, hsz, _, _⟩ := he.info
  have hc : P.cellsOf e = k := by simp [Program.cellsOf, hi, hsz]
  simp only [if_true]
  rw [run_equalIn_array w d _ _ hu hi, hc, List.range_eq_range', run_eqItems_ints hk (by omega) w n 0 (by rw [Nat.zero_add, hnk]; omega) (by rw [Nat.zero_add, hnk]; omega)]
  congr 2
  rw [Nat.zero_mul, List.drop_zero, List.drop_zero, hnk, List.take_of_length_le (by omega), List.take_of_length_le (by omega)]⟩
end Go.Eng
