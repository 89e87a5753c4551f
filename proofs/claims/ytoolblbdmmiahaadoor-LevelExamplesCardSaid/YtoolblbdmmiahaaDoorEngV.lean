/- The engine: deleting from a map from numbers. -/
import Derived.Test.YtoolblbdmmiahaaDoorEngU
namespace Go.Eng
open Go Go.RowKit
set_option linter.unusedVariables false
set_option linter.unusedSimpArgs false

/-- The entries es stand for f, each key once. -/
structure MU (kd : IntKind) (es : List MapEntry) (f : Int → Option Value) : Prop where
  mr : MR kd es f
  nd : (es.map (·.key)).Nodup
theorem MU.nil {kd : IntKind} : MU kd [] (fun _ => none) := ⟨MR.nil, List.Pairwise.nil⟩
theorem mget_none {kd : IntKind} {k : Int} : ∀ {es : List MapEntry}, (∀ e ∈ es, ∃ m, e.key = .int kd m) → (∀ e ∈ es, e.key ≠ .int kd k) → mget kd es k = none := by
  intro es
  induction es with
  | nil => intro _ _; rfl
  | cons e es ih =>
    intro hk h
    obtain ⟨m, hm⟩ := hk e List.mem_cons_self
    have hmk : m ≠ k := by
      have := h e List.mem_cons_self
      rw [hm] at this
      simpa using this
    simp only [mget, hm, hmk, and_false, if_false]
    exact ih (fun x hx => hk x (List.mem_cons_of_mem _ hx)) (fun x hx => h x (List.mem_cons_of_mem _ hx))
theorem mget_erase {kd : IntKind} (k : Int) : ∀ (es : List MapEntry) (j : Nat) (e : MapEntry), (∀ e ∈ es, ∃ m, e.key = .int kd m) → (es.map (·.key)).Nodup → es[j]? = some e → e.key = .int kd k →
    ∀ k', mget kd (es.eraseIdx j) k' = if k' = k then none else mget kd es k' := by
  intro es
  induction es with
  | nil => intro j e _ _ h; simp at h
  | cons x es ih =>
    intro j e hk hnd hj hek k'
    obtain ⟨m, hm⟩ := hk x List.mem_cons_self
    rw [List.map_cons, List.nodup_cons] at hnd
    cases j with
    | zero =>
      simp at hj; subst hj
      rw [List.eraseIdx_cons_zero]
      rw [hek] at hm; cases hm
      by_cases h : k' = k
      · subst h
        rw [if_pos rfl]
        exact mget_none (fun y hy => hk y (List.mem_cons_of_mem _ hy)) (fun y hy he => hnd.1 (by rw [hek, ← he]; exact List.mem_map_of_mem hy))
      · have : ¬ k = k' := fun e => h e.symm
        rw [if_neg h]
        simp [mget, hek, this]
    | succ j =>
      have hj' : es[j]? = some e := by simpa using hj
      have hmk : m ≠ k := by
        intro h
        subst h
        refine hnd.1 ?_
        rw [hm, ← hek]
        exact List.mem_map_of_mem (List.mem_of_getElem? hj')
      rw [List.eraseIdx_cons_succ]
      have := ih j e (fun y hy => hk y (List.mem_cons_of_mem _ hy)) hnd.2 hj' hek k'
      simp only [mget, hm, this]
      by_cases h : k' = k
      · subst h; simp [hmk]
      · simp [h]
section
variable {r : Option Nat} {P : Program} {Q : Exit → Act → World → Prop} {N : Nat} {D : List Deferred} {B : Nat} {w0 : World} {L : Env} {H : Hp} {ops : Array Oper} {rest : List Oper}
variable {d : Nat} {ty : TypeId} {pos : String} {aft : Array Edge}
theorem run_mapUpdateU {t kt e : TypeId} {kd : IntKind} [hm : MapP P t kt e] [hk : IntP P kt kd] {b : Nat} {es : Array MapEntry} {clk : Nat} {f : Int → Option Value} (hr : MU kd es.toList f) {key : Int} {v : Value} {w : World} (hb : w.heap[b]? = some (.map es clk)) :
    ∃ es' clk', MU kd es'.toList (fupd f key v) ∧ (Instr.mapUpdate t (.map (some b)) (.int kd key) v).run P w = .ok () (w.putObj b (.map es' clk')) := by
  have hget : (getObj b).run P w = .ok (.map es clk) w := by simp [getObj, Sem.run, hb]
  have hset : ∀ o, (setObj b o).run P w = .ok () (w.putObj b o) := fun o => by simp [setObj, Sem.run, hb, World.putObj]
  rcases findNow_int key es.toList 0 hr.mr.keys with ⟨j, x, h1, h2, h3, h4, h5⟩ | ⟨h1, h2, h3⟩
  · refine ⟨es.modify j fun e => { e with key := .int kd key, val := v }, clk, ⟨⟨fun e' he' => ?_, fun k' => ?_⟩, ?_⟩, ?_⟩
    · rw [Array.toList_modify] at he'
      obtain ⟨q, hq⟩ := List.getElem?_of_mem he'
      rw [List.getElem?_modify] at hq
      split at hq
      · obtain ⟨y, hy, rfl⟩ := Option.map_eq_some_iff.1 hq
        exact ⟨key, rfl⟩
      · simp at hq
        exact hr.mr.keys e' (List.mem_of_getElem? (by simpa using hq))
    · rw [Array.toList_modify, mget_modify key v es.toList j x hr.mr.keys h1 h2 h5 k', hr.mr.get]; rfl
    · have : (es.modify j fun e => { e with key := .int kd key, val := v }).toList.map (·.key) = es.toList.map (·.key) := by
        rw [Array.toList_modify]
        apply List.ext_getElem?
        intro q
        rw [List.getElem?_map, List.getElem?_map, List.getElem?_modify]
        by_cases hq : j = q
        · subst hq; rw [h1]; simp [h2]
        · simp [hq]
      rw [this]; exact hr.nd
    · have h1' : es[j]? = some x := by simpa using h1
      have hkts : (Instr.keyThatStays (Value.int kd key) (Value.int kd key)).run P w = .ok (.int kd key) w := by
        simp [Instr.keyThatStays, Instr.sameBits]
      simp [Instr.mapUpdate, run_underlying hm.u, hget, run_checkKey_int, Instr.findKey, run_underlying hk.u, h4, h1', h2, hkts, hset]
  · refine ⟨es.push { key := .int kd key, val := v, born := clk }, clk + 1, ⟨⟨fun e' he' => ?_, fun k' => ?_⟩, ?_⟩, ?_⟩
    · rw [Array.toList_push] at he'
      rcases List.mem_append.1 he' with h | h
      · exact hr.mr.keys e' h
      · rw [List.mem_singleton] at h; subst h; exact ⟨key, rfl⟩
    · rw [Array.toList_push, mget_push key v clk es.toList hr.mr.keys h3 k', hr.mr.get]; rfl
    · rw [Array.toList_push, List.map_append, List.nodup_append]
      refine ⟨hr.nd, by simp, fun a ha b hb => ?_⟩
      obtain ⟨y, hy, rfl⟩ := List.mem_map.1 ha
      simp at hb
      subst hb
      exact h3 y hy
    · simp [Instr.mapUpdate, run_underlying hm.u, hget, run_checkKey_int, Instr.findKey, run_underlying hk.u, h2, hset]
theorem TL_mapSetU {o : Op} {t kt e : TypeId} {kd : IntKind} {x y z : Operand} (ho : o = .mapUpdate t x y z ∨ o = .insert t x y z) [hm : MapP P t kt e] [hk : IntP P kt kd] {b : Nat} {es : Array MapEntry} {clk : Nat} {f : Int → Option Value} {key : Int} {v : Value} {H' : Array MapEntry → Nat → Hp}
    (hx : ev L x = some (.map (some b))) (hy : ev L y = some (.int kd key)) (hz : ev L z = some v) (hu : ∀ es' clk', Upd H b (.obj (.map es clk)) (.obj (.map es' clk')) (H' es' clk')) (hr : MU kd es.toList f)
    (k : ∀ es' clk', MU kd (Array.toList es') (fupd f key v) → TL r P Q N D B w0 L (H' es' clk') ops rest) : TL r P Q N D B w0 L H ops (⟨none, o, ty, pos, aft, none⟩ :: rest) := by
  refine TL_run rfl (by rcases ho with rfl | rfl <;> simp) fun a w hf hs => ?_
  obtain ⟨es', clk', h1, h2⟩ := run_mapUpdateU (P := P) (t := t) hr (key := key) (v := v) (hs.holds b _ (hu es clk).mem).2
  have e : (execOp a.eval ⟨none, o, ty, pos, aft, none⟩).run P w = .ok .skip (w.putObj b (.map es' clk')) := by
    rcases ho with rfl | rfl <;> simp [execOp, hf.ev hx, hf.ev hy, hf.ev hz, h2]
  rw [e]
  exact k es' clk' h1 _ _ hf (hs.putObj _ (hu es' clk'))
theorem run_delete {t kt kt' e : TypeId} {kd : IntKind} [hm : MapP P t kt e] [hk : IntP P kt kd] {b : Nat} {es : Array MapEntry} {clk : Nat} {f : Int → Option Value} (hr : MU kd es.toList f) {key : Int} {w : World} (hb : w.heap[b]? = some (.map es clk)) :
    ∃ es', MU kd (Array.toList es') (fdel f key) ∧ (Builtin.delete_ #[t, kt'] ty #[.map (some b), .int kd key]).run P w = .ok (.tuple #[]) (w.putObj b (.map es' clk)) := by
  have hget : (getObj b).run P w = .ok (.map es clk) w := by simp [getObj, Sem.run, hb]
  have hset : ∀ o, (setObj b o).run P w = .ok () (w.putObj b o) := fun o => by simp [setObj, Sem.run, hb, World.putObj]
  rcases findNow_int key es.toList 0 hr.mr.keys with ⟨j, x, h1, h2, h3, h4, h5⟩ | ⟨h1, h2, h3⟩
  · have hte : (es.eraseIdxIfInBounds j).toList = es.toList.eraseIdx j := by simp
    refine ⟨es.eraseIdxIfInBounds j, ⟨⟨fun e' he' => ?_, fun k' => ?_⟩, ?_⟩, ?_⟩
    · rw [hte] at he'
      exact hr.mr.keys e' ((List.eraseIdx_sublist _ _).subset he')
    · rw [hte, mget_erase key es.toList j x hr.mr.keys hr.nd h1 h2 k', hr.mr.get]; rfl
    · rw [hte]
      exact hr.nd.sublist ((List.eraseIdx_sublist _ _).map _)
    · simp [Builtin.delete_, run_underlying hm.u, hget, run_checkKey_int, Instr.findKey, run_underlying hk.u, h4, hset]
  · refine ⟨es, ⟨⟨hr.mr.keys, fun k' => ?_⟩, hr.nd⟩, ?_⟩
    · rw [hr.mr.get]
      unfold fdel
      split
      · rename_i h; subst h; rw [← hr.mr.get, h1]
      · rfl
    · simp [Builtin.delete_, run_underlying hm.u, hget, run_checkKey_int, Instr.findKey, run_underlying hk.u, h2, hset]
theorem TL_delete {t kt kt' e : TypeId} {kd : IntKind} {x y : Operand} [hm : MapP P t kt e] [hk : IntP P kt kd] {b : Nat} {es : Array MapEntry} {clk : Nat} {f : Int → Option Value} {key : Int} {H' : Array MapEntry → Hp}
    (hx : ev L x = some (.map (some b))) (hy : ev L y = some (.int kd key)) (hu : ∀ es', Upd H b (.obj (.map es clk)) (.obj (.map es' clk)) (H' es')) (hr : MU kd es.toList f)
    (k : ∀ es', MU kd (Array.toList es') (fdel f key) → TL r P Q N D B w0 L (H' es') ops rest) : TL r P Q N D B w0 L H ops (⟨none, .call { callee := .builtin .delete, args := #[x, y], argTypes := #[t, kt'] }, ty, pos, aft, none⟩ :: rest) := by
  refine TL_run rfl (by simp) fun a w hf hs => ?_
  obtain ⟨es', h1, h2⟩ := run_delete (P := P) (t := t) (kt' := kt') (ty := ty) hr (key := key) (hs.holds b _ (hu es).mem).2
  have e : (execOp a.eval ⟨none, .call { callee := .builtin .delete, args := #[x, y], argTypes := #[t, kt'] }, ty, pos, aft, none⟩).run P w = .ok (.value (.tuple #[])) (w.putObj b (.map es' clk)) := by
    simp [execOp, hf.ev hx, hf.ev hy, resolve, invoke, Go.builtin, h2]
  rw [e]
  exact k es' h1 _ _ hf (hs.putObj _ (hu es'))
end
end Go.Eng
