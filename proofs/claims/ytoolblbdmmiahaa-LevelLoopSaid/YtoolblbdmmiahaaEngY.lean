/- The engine: maps whose keys are pairs of numbers, as sets. -/
import Derived.Test.YtoolblbdmmiahaaEngX
namespace Go.Eng
open Go Go.RowKit
set_option linter.unusedVariables false

def pk (a b : Int) : Value := .agg #[.int .i64 a, .int .i64 b]
theorem pk_inj {a b c d : Int} (h : pk a b = pk c d) : a = c ∧ b = d := by
  unfold pk at h
  simpa using h
/-- The entries es stand for the pairs that f tells. -/
structure MP (es : List MapEntry) (f : Int → Int → Bool) : Prop where
  keys : ∀ e ∈ es, ∃ a b, e.key = pk a b ∧ e.val = .bool true ∧ f a b = true
  get : ∀ a b, f a b = true → ∃ e ∈ es, e.key = pk a b
theorem MP.nil : MP [] (fun _ _ => false) := ⟨fun e h => (by cases h), fun a b h => (by cases h)⟩
def padd (f : Int → Int → Bool) (a b : Int) : Int → Int → Bool := fun x y => f x y || (decide (x = a) && decide (y = b))
section
variable {P : Program} {w : World}
theorem run_checkKey_pair {kt e : TypeId} {z : List Value} [hu : AryP P kt 2 e] [he : TyP P e 1 false z] [hi : IntP P e .i64] (em : Bool) (a b : Int) : (Instr.checkKey em 10000 kt (pk a b)).run P w = .ok () w := by
  obtain ⟨j, _, hj, hsz, _, _⟩ := he.info
  have g1 : (Go.sizeOf e).run P w = .ok 1 w := by rw [run_sizeOf w hj]; simp [Program.cellsOf, hj, hsz]
  have key : ∀ n : Int, ∀ k, (Instr.checkKey em (k + 1) e (.int .i64 n)).run P w = .ok () w := fun n k => by
    rw [Instr.checkKey]
    simp [run_underlying hi.u]
  have p0 : (part e #[.int .i64 a, .int .i64 b] 0).run P w = .ok (.int .i64 a) w := by simp [part, he.ag w]
  have p1 : (part e #[.int .i64 a, .int .i64 b] 1).run P w = .ok (.int .i64 b) w := by simp [part, he.ag w]
  have e1 : List.range' 0 2 = [0, 1] := rfl
  have : ∀ n, (Instr.checkKey em (n + 1 + 1) kt (pk a b)).run P w = .ok () w := fun n => by
    rw [Instr.checkKey]
    simp [pk, run_underlying hu.u, e1, g1, p0, p1, key]
  exact this 9998
theorem run_equal_pair {kt : TypeId} {lv : Nat} {z : List Value} [hq : EqP P kt lv 2] [ht : TyP P kt 2 true [.int .i64 0, .int .i64 0]] (hlv : lv ≤ 10000) (a b c d : Int) : (Op.equal kt (pk a b) (pk c d)).run P w = .ok (decide (a = c ∧ b = d)) w := by
  have h := hq.run 10000 [a, b] [c, d] (pk a b) (pk c d) w hlv rfl rfl ⟨true, ht, rfl, rfl⟩
  have e : decide ([a, b] = [c, d]) = decide (a = c ∧ b = d) := by
    apply decide_eq_decide.2
    simp
  rw [e] at h
  exact h
theorem findAsking_pair {kt : TypeId} {lv : Nat} [hq : EqP P kt lv 2] [ht : TyP P kt 2 true [.int .i64 0, .int .i64 0]] (hlv : lv ≤ 10000) (a b : Int) : ∀ (es : List MapEntry) (i : Nat), (∀ e ∈ es, ∃ c d, e.key = pk c d) →
    (∃ j e, es[j]? = some e ∧ e.key = pk a b ∧ (Instr.findAsking kt (pk a b) es i).run P w = .ok (some (i + j, e.val)) w) ∨ ((Instr.findAsking kt (pk a b) es i).run P w = .ok none w ∧ ∀ e ∈ es, e.key ≠ pk a b) := by
  intro es
  induction es with
  | nil => intro i _; exact .inr ⟨rfl, fun e h => by cases h⟩
  | cons e es ih =>
    intro i h
    obtain ⟨c, d, hcd⟩ := h e List.mem_cons_self
    have he := run_equal_pair (P := P) (w := w) (kt := kt) (z := []) hlv a b c d
    by_cases hk : a = c ∧ b = d
    · refine .inl ⟨0, e, rfl, by rw [hcd, hk.1, hk.2], ?_⟩
      rw [decide_eq_true hk] at he
      simp [Instr.findAsking, hcd, he]
    · rw [decide_eq_false hk] at he
      have e1 : (Instr.findAsking kt (pk a b) (e :: es) i).run P w = (Instr.findAsking kt (pk a b) es (i + 1)).run P w := by simp [Instr.findAsking, hcd, he]
      rcases ih (i + 1) (fun x hx => h x (List.mem_cons_of_mem _ hx)) with ⟨j, x, h1, h2, h3⟩ | ⟨h1, h2⟩
      · exact .inl ⟨j + 1, x, by simpa using h1, h2, by rw [e1, h3, show i + 1 + j = i + (j + 1) by omega]⟩
      · refine .inr ⟨by rw [e1, h1], fun x hx => ?_⟩
        rcases List.mem_cons.1 hx with rfl | hx
        · rw [hcd]; intro hh
          obtain ⟨q1, q2⟩ := pk_inj hh
          exact hk ⟨q1.symm, q2.symm⟩
        · exact h2 x hx
theorem findKey_pair {kt e : TypeId} {lv : Nat} [hu : AryP P kt 2 e] [hq : EqP P kt lv 2] [ht : TyP P kt 2 true [.int .i64 0, .int .i64 0]] (hlv : lv ≤ 10000) (a b : Int) (es : List MapEntry) (h : ∀ e ∈ es, ∃ c d, e.key = pk c d) :
    (∃ j e, es[j]? = some e ∧ e.key = pk a b ∧ (Instr.findKey kt (pk a b) es).run P w = .ok (some (j, e.val)) w) ∨ ((Instr.findKey kt (pk a b) es).run P w = .ok none w ∧ ∀ e ∈ es, e.key ≠ pk a b) := by
  have e1 : (Instr.findKey kt (pk a b) es).run P w = (Instr.findAsking kt (pk a b) es).run P w := by
    cases es with
    | nil => simp [Instr.findKey, run_underlying hu.u, Instr.findNow, Instr.findAsking]
    | cons e es => simp [Instr.findKey, run_underlying hu.u, Instr.findNow, Instr.sameNow]
  rw [e1]
  rcases findAsking_pair (P := P) (w := w) (kt := kt) hlv a b es 0 h with ⟨j, e, h1, h2, h3⟩ | h
  · exact .inl ⟨j, e, h1, h2, by rw [h3, Nat.zero_add]⟩
  · exact .inr h
theorem run_mapUpdate_pair {t kt e : TypeId} {z : List Value} {lv : Nat} [hm : MapP P t kt e] {e3 : TypeId} [hu : AryP P kt 2 e3] [he : TyP P e3 1 false z] [hi : IntP P e3 .i64] [hq : EqP P kt lv 2] [ht : TyP P kt 2 true [.int .i64 0, .int .i64 0]] (hlv : lv ≤ 10000) {b : Nat} {es : Array MapEntry} {clk : Nat} {f : Int → Int → Bool} (hr : MP es.toList f) (x y : Int) (hb : w.heap[b]? = some (.map es clk)) :
    ∃ es' clk', MP (Array.toList es') (padd f x y) ∧ (Instr.mapUpdate t (.map (some b)) (pk x y) (.bool true)).run P w = .ok () (w.putObj b (.map es' clk')) := by
  have hget : (getObj b).run P w = .ok (.map es clk) w := by simp [getObj, Sem.run, hb]
  have hset : ∀ o, (setObj b o).run P w = .ok () (w.putObj b o) := fun o => by simp [setObj, Sem.run, hb, World.putObj]
  have hck := run_checkKey_pair (P := P) (w := w) (kt := kt) (e := e3) false x y
  have hsame : (Instr.keyThatStays (pk x y) (pk x y)).run P w = .ok (pk x y) w := by simp [Instr.keyThatStays, Instr.sameBits, pk]
  rcases findKey_pair (P := P) (w := w) (kt := kt) (e := e3) hlv x y es.toList (fun e he => by obtain ⟨a, b, h, _⟩ := hr.keys e he; exact ⟨a, b, h⟩) with ⟨j, m, h1, h2, h3⟩ | ⟨h1, h2⟩
  · have h1' : es[j]? = some m := by simpa using h1
    obtain ⟨a0, b0, k1, k2, k3⟩ := hr.keys m (List.mem_of_getElem? h1)
    have hab : a0 = x ∧ b0 = y := pk_inj (k1.symm.trans h2)
    have hfx : f x y = true := by rw [← hab.1, ← hab.2]; exact k3
    refine ⟨es.modify j fun e => { e with key := pk x y, val := .bool true }, clk, ⟨fun e' he' => ?_, fun a b hab' => ?_⟩, ?_⟩
    · rw [Array.toList_modify] at he'
      obtain ⟨q, hq'⟩ := List.getElem?_of_mem he'
      rw [List.getElem?_modify] at hq'
      split at hq'
      · obtain ⟨u, hu', rfl⟩ := Option.map_eq_some_iff.1 hq'
        exact ⟨x, y, rfl, rfl, by simp [padd]⟩
      · simp at hq'
        obtain ⟨a, b, g1, g2, g3⟩ := hr.keys e' (List.mem_of_getElem? (by simpa using hq'))
        exact ⟨a, b, g1, g2, by simp [padd, g3]⟩
    · have hfab : f a b = true := by
        simp only [padd, Bool.or_eq_true, Bool.and_eq_true, decide_eq_true_eq] at hab'
        rcases hab' with h | ⟨rfl, rfl⟩
        · exact h
        · exact hfx
      obtain ⟨u, hu1, hu2⟩ := hr.get a b hfab
      obtain ⟨q, hq'⟩ := List.getElem?_of_mem hu1
      rw [Array.toList_modify]
      by_cases hjq : j = q
      · subst hjq
        refine ⟨{ u with key := pk x y, val := .bool true }, List.mem_of_getElem? (i := j) (by rw [List.getElem?_modify, hq']; simp), ?_⟩
        rw [h1] at hq'; cases hq'
        rw [← h2, hu2]
      · exact ⟨u, List.mem_of_getElem? (i := q) (by rw [List.getElem?_modify, hq']; simp [hjq]), hu2⟩
    · simp [Instr.mapUpdate, run_underlying hm.u, hget, hck, h3, h1', h2, hsame, hset]
  · refine ⟨es.push { key := pk x y, val := .bool true, born := clk }, clk + 1, ⟨fun e' he' => ?_, fun a b hab' => ?_⟩, ?_⟩
    · rw [Array.toList_push] at he'
      rcases List.mem_append.1 he' with h | h
      · obtain ⟨a, b, g1, g2, g3⟩ := hr.keys e' h
        exact ⟨a, b, g1, g2, by simp [padd, g3]⟩
      · rw [List.mem_singleton] at h; subst h
        exact ⟨x, y, rfl, rfl, by simp [padd]⟩
    · rw [Array.toList_push]
      simp only [padd, Bool.or_eq_true, Bool.and_eq_true, decide_eq_true_eq] at hab'
      rcases hab' with h | ⟨rfl, rfl⟩
      · obtain ⟨u, hu1, hu2⟩ := hr.get a b h
        exact ⟨u, List.mem_append_left _ hu1, hu2⟩
      · exact ⟨_, List.mem_append_right _ List.mem_cons_self, rfl⟩
    · simp [Instr.mapUpdate, run_underlying hm.u, hget, hck, h1, hset]
theorem run_lookup_pair {t kt e : TypeId} {z : List Value} {lv : Nat} [hm : MapP P t kt e] {e3 : TypeId} [hu : AryP P kt 2 e3] [he : TyP P e3 1 false z] [hi : IntP P e3 .i64] [hq : EqP P kt lv 2] [ht : TyP P kt 2 true [.int .i64 0, .int .i64 0]] (hlv : lv ≤ 10000) {b : Nat} {es : Array MapEntry} {clk : Nat} {f : Int → Int → Bool} (hr : MP es.toList f) (x y : Int) (hb : w.heap[b]? = some (.map es clk)) (hz : (zeroValue e).run P w = .ok (.bool false) w) :
    (Instr.lookup t (.map (some b)) (pk x y) false).run P w = .ok (.bool (f x y)) w := by
  have hget : (getObj b).run P w = .ok (.map es clk) w := by simp [getObj, Sem.run, hb]
  have hck := fun em => run_checkKey_pair (P := P) (w := w) (kt := kt) (e := e3) em x y
  rcases findKey_pair (P := P) (w := w) (kt := kt) (e := e3) hlv x y es.toList (fun e he => by obtain ⟨a, b, h, _⟩ := hr.keys e he; exact ⟨a, b, h⟩) with ⟨j, m, h1, h2, h3⟩ | ⟨h1, h2⟩
  · obtain ⟨a0, b0, k1, k2, k3⟩ := hr.keys m (List.mem_of_getElem? h1)
    have hab : a0 = x ∧ b0 = y := pk_inj (k1.symm.trans h2)
    have hfx : f x y = true := by rw [← hab.1, ← hab.2]; exact k3
    rw [hfx]
    simp [Instr.lookup, run_underlying hm.u, hget, hck, h3, k2]
  · have hfx : f x y = false := by
      cases hc : f x y with
      | false => rfl
      | true => obtain ⟨u, hu1, hu2⟩ := hr.get x y hc; exact absurd hu2 (h2 u hu1)
    rw [hfx]
    simp [Instr.lookup, run_underlying hm.u, hget, hck, h1, hz]
end
section
variable {r : Option Nat} {P : Program} {Q : Exit → Act → World → Prop} {N : Nat} {D : List Deferred} {B : Nat} {w0 : World} {L : Env} {H : Hp} {ops : Array Oper} {rest : List Oper}
variable {d : Nat} {ty : TypeId} {pos : String} {aft : Array Edge}
theorem TL_mapSetP {o : Op} {t kt e e3 : TypeId} {zz : List Value} {lv : Nat} {x y z : Operand} (ho : o = .mapUpdate t x y z ∨ o = .insert t x y z) [hm : MapP P t kt e] [hu : AryP P kt 2 e3] [he : TyP P e3 1 false zz] [hi : IntP P e3 .i64] [hq : EqP P kt lv 2] [ht : TyP P kt 2 true [.int .i64 0, .int .i64 0]] (hlv : lv ≤ 10000) {b : Nat} {es : Array MapEntry} {clk : Nat} {f : Int → Int → Bool} {a c : Int} {H' : Array MapEntry → Nat → Hp}
    (hx : ev L x = some (.map (some b))) (hy : ev L y = some (pk a c)) (hz : ev L z = some (.bool true)) (hup : ∀ es' clk', Upd H b (.obj (.map es clk)) (.obj (.map es' clk')) (H' es' clk')) (hr : MP es.toList f)
    (k : ∀ es' clk', MP (Array.toList es') (padd f a c) → TL r P Q N D B w0 L (H' es' clk') ops rest) : TL r P Q N D B w0 L H ops (⟨none, o, ty, pos, aft, none⟩ :: rest) := by
  refine TL_run rfl (by rcases ho with rfl | rfl <;> simp) fun a' w hf hs => ?_
  obtain ⟨es', clk', h1, h2⟩ := run_mapUpdate_pair (P := P) (t := t) (w := w) hlv hr a c (hs.holds b _ (hup es clk).mem).2
  have e : (execOp a'.eval ⟨none, o, ty, pos, aft, none⟩).run P w = .ok .skip (w.putObj b (.map es' clk')) := by
    rcases ho with rfl | rfl <;> simp [execOp, hf.ev hx, hf.ev hy, hf.ev hz, h2]
  rw [e]
  exact k es' clk' h1 _ _ hf (hs.putObj _ (hup es' clk'))
theorem TL_lookupP {t kt e e3 : TypeId} {zz : List Value} {lv : Nat} {x y : Operand} [hm : MapP P t kt e] [hu : AryP P kt 2 e3] [he : TyP P e3 1 false zz] [hi : IntP P e3 .i64] [hq : EqP P kt lv 2] [ht : TyP P kt 2 true [.int .i64 0, .int .i64 0]] (hlv : lv ≤ 10000) {b : Nat} {es : Array MapEntry} {clk : Nat} {f : Int → Int → Bool} {a c : Int} (hd : Nat.blt d N = true)
    (hx : ev L x = some (.map (some b))) (hy : ev L y = some (pk a c)) (hb : (b, .obj (.map es clk)) ∈ H) (hr : MP es.toList f) (hze : ∀ w, (zeroValue e).run P w = .ok (.bool false) w)
    (k : TL r P Q N D B w0 ((d, .bool (f a c)) :: L) H ops rest) : TL r P Q N D B w0 L H ops (⟨some d, .lookup t x y false, ty, pos, aft, none⟩ :: rest) :=
  TL_val (by simp) hd _ (fun a' w hf hs => by
    have h := run_lookup_pair (P := P) (t := t) (w := w) hlv hr a c (hs.holds b _ hb).2 (hze w)
    simp [execOp, hf.ev hx, hf.ev hy, h]) k
end
end Go.Eng
