/- The engine: a store into an element of a row. -/
import Derived.Test.YtkpkebpofpcmaaaGreatDoorEngC
namespace Go.Eng
open Go Go.RowKit
set_option linter.unusedVariables false

theorem putN_put {n : Nat} {vs cs : List Value} (h : n + vs.length ≤ cs.length) : putN n vs cs = some (cs.take n ++ vs ++ cs.drop (n + vs.length)) := by
  induction n generalizing cs with
  | zero =>
    have : ∀ (vs cs : List Value), vs.length ≤ cs.length → overN vs cs = some (vs ++ cs.drop vs.length) := by
      intro vs
      induction vs with
      | nil => intro cs _; cases cs <;> simp [overN]
      | cons v vs ih =>
        intro cs h
        cases cs with
        | nil => simp at h
        | cons c cs => simp only [overN]; rw [ih cs (by simpa using h)]; simp
    have h2 := this vs cs (by omega)
    cases cs <;> simp [putN, h2]
  | succ n ih =>
    cases cs with
    | nil => simp at h
    | cons c cs =>
      have h2 := ih (cs := cs) (by simp at h; omega)
      simp only [putN, h2]
      simp [List.take_succ_cons, show n + 1 + vs.length = (n + vs.length) + 1 by omega]
/-- Cells that turn in a row's block. -/
theorem flat_put {α : Type} {enc : α → List Value} {k : Nat} (more : List Value) : ∀ {l : List α} {i : Nat} {u u' : α} {off : Nat} {vs : List Value}, (∀ x ∈ l, (enc x).length = k) → l[i]? = some u → putN off vs (enc u) = some (enc u') →
    putN (i * k + off) vs (l.flatMap enc ++ more) = some ((l.set i u').flatMap enc ++ more) := by
  intro l
  induction l with
  | nil => intro i u u' off vs _ h; simp at h
  | cons y l ih =>
    intro i u u' off vs hk hi hp
    have hy := hk y List.mem_cons_self
    cases i with
    | zero =>
      simp at hi; subst hi
      obtain ⟨e, hl⟩ := putN_some hp
      rw [Nat.zero_mul, Nat.zero_add, List.set_cons_zero, List.flatMap_cons, List.flatMap_cons, List.append_assoc, List.append_assoc]
      rw [putN_put (by simp; omega), e]
      rw [List.take_append_of_le_length (by omega), List.drop_append_of_le_length (by omega)]
      simp
    | succ i =>
      have h1 := ih (i := i) (u := u) (u' := u') (off := off) (vs := vs) (fun x hx => hk x (List.mem_cons_of_mem _ hx)) (by simpa using hi) hp
      obtain ⟨e, hl⟩ := putN_some h1
      rw [List.set_cons_succ, List.flatMap_cons, List.flatMap_cons, List.append_assoc, List.append_assoc]
      have e1 : (i + 1) * k + off = (enc y).length + (i * k + off) := by rw [hy, Nat.succ_mul]; omega
      rw [e1, putN_put (by simp only [List.length_append] at hl ⊢; omega), e]
      rw [show (enc y).length + (i * k + off) + vs.length = (enc y).length + (i * k + off + vs.length) by omega]
      rw [List.take_append, List.drop_append]
      simp [List.take_of_length_le, List.drop_eq_nil_of_le]
theorem Row.put {α : Type} {T : TypeId} {k : Nat} {enc : α → List Value} {ao : Option Addr} {cap : Nat} {ob : Hp} {l : List α} (h : Row T k enc ao cap ob l) {i : Nat} {u u' : α} (hi : l[i]? = some u) {off : Nat} {vs : List Value} (hp : putN off vs (enc u) = some (enc u')) (h1 : oneCells (enc u') = true) :
    ∃ b cs cs', ao = some ⟨b, 0, none⟩ ∧ ob = [(b, .cells cs T)] ∧ putN (i * k + off) vs cs = some cs' ∧ Row T k enc ao cap [(b, .cells cs' T)] (l.set i u') := by
  have hx : u ∈ l := List.mem_of_getElem? hi
  obtain ⟨e, hl⟩ := putN_some hp
  have hlen : (enc u').length = (enc u).length := by rw [e]; simp; omega
  rcases h.2 with ⟨_, _, _, rfl⟩ | ⟨b, more, rfl, rfl, h2, h3, h4⟩
  · cases hx
  · refine ⟨b, _, _, rfl, rfl, flat_put more (fun x hx => (h.1 x hx).1) hi hp, ⟨fun x hx' => ?_, .inr ⟨b, more, rfl, rfl, by rw [List.length_set]; exact h2, h3, ?_⟩⟩⟩
    · rcases List.mem_or_eq_of_mem_set hx' with hm | rfl
      · exact h.1 x hm
      · exact ⟨by rw [hlen]; exact (h.1 u hx).1, h1⟩
    · obtain ⟨e2, hl2⟩ := putN_some (flat_put more (fun x hx => (h.1 x hx).1) hi hp)
      rw [e2, ← h4]; simp; simp at hl2; omega
/-- A row of the call's own; or nothing, wherever it points. -/
def RowE {α : Type} (T : TypeId) (k : Nat) (enc : α → List Value) (ao : Option Addr) (cap : Nat) (ob : Hp) (l : List α) : Prop := Row T k enc ao cap ob l ∨ (l = [] ∧ ob = [] ∧ cap = 0)
theorem RowE.sl {α : Type} {T : TypeId} {k : Nat} {enc : α → List Value} {ao : Option Addr} {cap : Nat} {ob : Hp} {l : List α} {B : Nat} {w0 w : World} {H : Hp} (h : RowE T k enc ao cap ob l) (hs : SH B w0 w H) (hm : ∀ p ∈ ob, p ∈ H) : Sl w k enc ao l := by
  rcases h with h | ⟨rfl, rfl, _⟩
  · exact h.sl hs hm
  · exact Sl.nil _ _ _ _
theorem RowE.row {α : Type} {T : TypeId} {k : Nat} {enc : α → List Value} {ao : Option Addr} {cap : Nat} {ob : Hp} {l : List α} (h : RowE T k enc ao cap ob l) (hl : l ≠ []) : Row T k enc ao cap ob l := by
  rcases h with h | ⟨h, _⟩
  · exact h
  · exact absurd h hl
section
variable {r : Option Nat} {P : Program} {Q : Exit → Act → World → Prop} {N : Nat} {D : List Deferred} {B : Nat} {w0 : World} {L : Env} {H : Hp} {ops : Array Oper} {rest : List Oper}
variable {ty : TypeId} {pos : String} {aft : Array Edge}
/-- A store into a row's element: f is what lies about the row's block. -/
theorem TL_store_el {α : Type} {t T : TypeId} {sz k : Nat} {ag : Bool} {z : List Value} {enc : α → List Value} {ao : Option Addr} {cap : Nat} {ob : Hp} {l : List α} {i off : Nat} {u u' : α} {x y : Operand} {v : Value} {vs : List Value} [ht : TyP P t sz ag z] (f : Hp → Hp) (hrow : Row T k enc ao cap ob l)
    (hf : H = f ob) (hx : ev L x = some (.pointer (some (elA ao k i off)))) (hy : ev L y = some v) (hv : v.cells.toList = vs) (hone : oneCells vs = true) (hl : vs.length = sz) (hi : l[i]? = some u) (hp : putN off vs (enc u) = some (enc u')) (h1 : oneCells (enc u') = true)
    (hu : ∀ b x y, Upd (f [(b, x)]) b x y (f [(b, y)])) (kk : ∀ ob', Row T k enc ao cap ob' (l.set i u') → TL r P Q N D B w0 L (f ob') ops rest) : TL r P Q N D B w0 L H ops (⟨none, .store t x y, ty, pos, aft, none⟩ :: rest) := by
  obtain ⟨b, cs, cs', e1, e2, e3, e4⟩ := hrow.put hi hp h1
  subst e2 hf
  have hx' : ev L x = some (.pointer (some ⟨b, i * k + off, none⟩)) := by rw [hx, e1]; simp [elA]
  exact TL_store hx' hy hv hone hl (hu b _ _) e3 (kk _ e4)
/-- 'append(T{}, src...)'. -/
theorem TL_append0 {α : Type} {t e : TypeId} {x y : Operand} {sz d : Nat} {ag : Bool} {z : List Value} {by_ : Nat} {enc : α → List Value} {a : Addr} {ao2 : Option Addr} {n2 c2 : Nat} {l2 : List α} (hd : Nat.blt d N = true)
    [hu : SlcP P t e] [he : TyP P e sz ag z] (hzl : z.length = sz) [hby : BytP P e by_]
    (hx : ev L x = some (.slice (some a) 0 0)) (hy : ev L y = some (.slice ao2 n2 c2)) (hn2 : n2 = l2.length) (hs2 : ∀ w, SH B w0 w H → Sl w sz enc ao2 l2)
    (h1 : ∀ u ∈ l2, oneCells (enc u) = true) (hb : l2.length * by_ ≤ 140737488355328) (hm : l2.length ≤ maxLen)
    (k : ∀ so sc ob, RowE e sz enc so sc ob l2 → TL r P Q N D B w0 ((d, .slice so l2.length sc) :: L) (ob ++ H) ops rest) :
    TL r P Q N D B w0 L H ops (⟨some d, .call { callee := .builtin .append, args := #[x, y], argTypes := #[t, t] }, ty, pos, aft, none⟩ :: rest) := by
  subst hn2
  refine TL_valw (by simp) hd (fun q : Option Addr × Nat × Hp => .slice q.1 l2.length q.2.1) (fun q => q.2.2 ++ H) (fun q => RowE e sz enc q.1 q.2.1 q.2.2 l2) (fun a' w hf hss => ?_) (fun q hq => k q.1 q.2.1 q.2.2 hq)
  by_cases hl2 : l2 = []
  · subst hl2
    obtain ⟨i, v, hi, hsi, hz, hc⟩ := he.info
    refine ⟨(some a, 0, []), w, .inr ⟨rfl, rfl, rfl⟩, ?_, hss⟩
    simp only [execOp, resolve, invoke, Go.builtin]
    cases ao2 <;> simp [hf.ev hx, hf.ev hy, Builtin.append_, run_underlying hu.u, sizeOf, typeInfo, hi, Builtin.lenOf, Builtin.firstCells, loadCells, loadCellsFrom, storeCells]
  · obtain ⟨b, cap', ob', w', h2, h3, h4⟩ := run_append_new (P := P) (t := t) (ty := ty) (l := ([] : List α)) (ao := some a) (cap := 0) hzl (Sl.nil _ _ _ _) (hs2 w hss) (fun _ h => by cases h) (by simp; exact List.length_pos_iff.2 hl2) (Nat.le_refl _) (by simpa using h1) (by simpa using hb) (by simpa using hm) hss (c2 := c2)
    simp only [List.nil_append, List.length_nil] at h2 h3
    exact ⟨(some ⟨b, 0, none⟩, cap', ob'), w', .inl h2, by simp [execOp, resolve, invoke, Go.builtin, hf.ev hx, hf.ev hy, h3], h4⟩
end
end Go.Eng
