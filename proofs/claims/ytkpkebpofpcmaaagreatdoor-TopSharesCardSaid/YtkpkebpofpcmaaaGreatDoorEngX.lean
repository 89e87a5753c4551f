/- The engine: slices that are made; tables. The engine: slices by one bound. -/
import Derived.Test.YtkpkebpofpcmaaaGreatDoorEngD
import Derived.Laws.MakeOwn
import Derived.Scope
import Derived.Laws.BytesString
namespace Go.Eng
open Go Go.RowKit
set_option linter.unusedVariables false

theorem made_one (v : Value) (n : Nat) : madeCells #[v] n = (List.replicate n v).toArray := by
  apply Array.ext'
  unfold madeCells
  rw [Array.toList_map, Array.toList_range]
  apply List.ext_getElem
  · simp
  · intro i h1 h2
    simp [Nat.mod_one]
section
variable {r : Option Nat} {P : Program} {Q : Exit → Act → World → Prop} {N : Nat} {D : List Deferred} {B : Nat} {w0 : World} {L : Env} {H : Hp} {ops : Array Oper} {rest : List Oper}
variable {d : Nat} {ty : TypeId} {pos : String} {aft : Array Edge}
/-- 'make([]T, n)', elements of one cell. -/
theorem TL_makeSlice1 {t e : TypeId} {x y : Operand} {by_ : Nat} {v0 : Value} {k1 k2 : IntKind} {m1 m2 : Int} (n : Nat) (hd : Nat.blt d N = true) [hu : SlcP P t e] [he : TyP P e 1 false [v0]] [hby : BytP P e by_]
    (hx : ev L x = some (.int k1 m1)) (hy : ev L y = some (.int k2 m2)) (h1 : m1 = (n : Int)) (h2 : m2 = (n : Int)) (hb : by_ * n ≤ 281474976710656) (hm : n ≤ 9223372036854775807)
    (hz : (P.info? e).bind (fun i => i.zero) = some v0) (hc : v0.cells = #[v0])
    (k : ∀ b, B ≤ b → TL r P Q N D B w0 ((d, .slice (some ⟨b, 0, none⟩) n n) :: L) ((b, .cells (List.replicate n v0) e) :: H) ops rest) : TL r P Q N D B w0 L H ops (⟨some d, .makeSlice t x y, ty, pos, aft, none⟩ :: rest) :=
  TL_valw (by simp) hd (fun b : Nat => .slice (some ⟨b, 0, none⟩) n n) (fun b => (b, .cells (List.replicate n v0) e) :: H) (fun b => B ≤ b) (fun a w hf hs => ⟨w.heap.size, w.alloc (Blk.cells (List.replicate n v0) e).toObj, hs.hB, by
    obtain ⟨i, v, hi, hsz, hzz, hcc⟩ := he.info
    have hbi : i.bytes = by_ := by rw [← hby.b]; simp [Program.bytesOf, hi]
    subst h1 h2
    have hz' : i.zero = some v0 := by simpa [hi] using hz
    have hbb : (i.bytes : Int) * (n : Int) ≤ 281474976710656 := by
      rw [hbi]
      have : ((by_ * n : Nat) : Int) ≤ 281474976710656 := by omega
      rwa [Int.natCast_mul] at this
    have h := run_make (P := P) w t e i v0 hu.u hi hz' k1 k2 (n : Int) (n : Int) (by omega) (Int.le_refl _) hbb (by omega)
    rw [hsz, hc, Int.toNat_natCast, Nat.mul_one, made_one] at h
    exact ⟨by simp [execOp, hf.ev hx, hf.ev hy, h, Blk.toObj], hs.alloc (Blk.cells (List.replicate n v0) e)⟩⟩) k
end

/-! Tables. -/
abbrev Tbl := Nat → Nat → Int
def updT (T : Tbl) (i k : Nat) (v : Int) : Tbl := fun a b => if a = i ∧ b = k then v else T a b
/-- The cells of a table of r rows and c columns. -/
def encT (c n : Nat) (T : Tbl) : List Value := (List.range n).map (fun j => .int .i64 (T (j / c) (j % c)))
theorem encT_len (c n : Nat) (T : Tbl) : (encT c n T).length = n := by simp [encT]
theorem divmod {c i k : Nat} (hk : k < c) : (i * c + k) / c = i ∧ (i * c + k) % c = k := by
  have hc : 0 < c := by omega
  refine ⟨?_, ?_⟩
  · rw [Nat.mul_comm, Nat.mul_add_div hc, Nat.div_eq_of_lt hk]; rfl
  · rw [Nat.mul_comm, Nat.mul_add_mod, Nat.mod_eq_of_lt hk]
theorem takeN1 {l : List Value} {o : Nat} {v : Value} (h : l[o]? = some v) : takeN 1 (dropN o l) = some [v] := by
  rw [dropN_eq]
  have : (l.drop o)[0]? = some v := by simpa using h
  cases hd : l.drop o with
  | nil => rw [hd] at this; cases this
  | cons x xs => rw [hd] at this; simp at this; subst this; rfl
theorem encT_get {c n i k : Nat} (T : Tbl) (hk : k < c) (hn : i * c + k < n) {o : Nat} (ho : o = i * c + k) : takeN 1 (dropN o (encT c n T)) = some [.int .i64 (T i k)] := by
  subst ho
  apply takeN1
  simp [encT, hn, divmod hk]
theorem putN1 {l : List Value} {o : Nat} (v : Value) (h : o < l.length) : putN o [v] l = some (l.set o v) := by
  rw [putN_put (by simp; omega)]
  congr 1
  rw [List.set_eq_take_append_cons_drop, if_pos h]
  simp
theorem encT_put {c n i k : Nat} (T : Tbl) (hk : k < c) (hn : i * c + k < n) (v : Int) {o : Nat} (ho : o = i * c + k) : putN o [.int .i64 v] (encT c n T) = some (encT c n (updT T i k v)) := by
  subst ho
  rw [putN1 _ (by rw [encT_len]; exact hn)]
  congr 1
  apply List.ext_getElem?
  intro j
  rw [List.getElem?_set, encT_len]
  by_cases hj : i * c + k = j
  · subst hj
    rw [if_pos rfl, if_pos hn]
    simp [encT, hn, divmod hk, updT]
  · rw [if_neg hj]
    simp only [encT, List.getElem?_map]
    by_cases hjn : j < n
    · rw [List.getElem?_range hjn]
      simp only [Option.map_some, updT]
      rw [if_neg]
      rintro ⟨h1, h2⟩
      have := Nat.div_add_mod j c
      rw [h1, h2, Nat.mul_comm] at this
      exact hj this
    · rw [List.getElem?_eq_none (by simpa using hjn)]; rfl
/-- One row's cells. -/
def encRw (m : Nat) (T : Tbl) (i : Nat) : List Value := (List.range m).map (fun k => .int .i64 (T i k))
/-- Rows, each in a block of its own. -/
def rowsH (ty : TypeId) (m : Nat) (T : Tbl) : List Nat → Nat → Hp
  | [], _ => []
  | b :: bs, i => (b, .cells (encRw m T i) ty) :: rowsH ty m T bs (i + 1)
end Go.Eng
/- The engine: scopes of labels; maps from numbers to truths. -/
namespace Go.Eng
open Go Go.RowKit
set_option linter.unusedVariables false

theorem stepR_scope' {P : Program} {b : Frame} {a : Act} {k : List Item} {cs : List Frame} {w : World} {c : Code} : step P (lone (b.atR a (.code (.scope c) :: k)) cs w) = .next (lone (b.atR a (.code c :: .inScope c :: k)) cs w) :=
  step_lone_go (by simp [stepG, stepG.exec, Frame.atR])
theorem stepR_inScope' {P : Program} {b : Frame} {a : Act} {k : List Item} {cs : List Frame} {w : World} {c : Code} : step P (lone (b.atR a (.inScope c :: k)) cs w) = .next (lone (b.atR a k) cs w) :=
  step_lone_go (by simp [stepG, stepG.exec, Frame.atR])
theorem wpIn_scope' {F : Fence} {n : Nat} {P : Program} {Q : Exit → Act → World → Prop} {a : Act} {w : World} {c : Code} (h : c.wpIn F n P (Exit.noGoto Q) a w) : (Code.scope c).wpIn F n P Q a w := by
  intro b k cs hro hb hr
  have h0 : (lone (b.atR a (.code (.scope c) :: k)) cs w).fenced P F := fenced_calm hb hr rfl
  obtain ⟨e, a₁, w₁, hq, harr⟩ := h b (.inScope c :: k) cs hro hb hr
  cases e with
  | normal => exact ⟨.normal, a₁, w₁, hq, .head h0 stepR_scope' (StepsIn.trans harr (.one (fenced_calm hb hr rfl) stepR_inScope'))⟩
  | exit id' =>
    have hx : exitTo id' (.inScope c :: k) = exitTo id' k := by simp [exitTo]
    exact ⟨.exit id', a₁, w₁, hq, fun k' hk => .head h0 stepR_scope' (harr.1 k' (by rw [hx]; exact hk)),
      fun hr' hk => let ⟨k₁, h1, h2⟩ := harr.2 hr' (by rw [hx]; exact hk); ⟨k₁, h1, .head h0 stepR_scope' h2⟩⟩
  | goto l => exact hq.elim
  | ret => exact ⟨_, a₁, w₁, hq, .of_steps (.one h0 stepR_scope') harr⟩
  | panic ch => exact ⟨_, a₁, w₁, hq, .of_steps (.one h0 stepR_scope') harr⟩
  | outgrown => exact ⟨_, a₁, w₁, hq, .of_steps (.one h0 stepR_scope') harr⟩
section
variable {r : Option Nat} {P : Program} {Q : Exit → Act → World → Prop} {N : Nat} {D : List Deferred} {B : Nat} {w0 : World} {L : Env} {H : Hp} {ops : Array Oper} {rest : List Oper}
variable {d : Nat} {ty : TypeId} {pos : String} {aft : Array Edge}
theorem TC_scope {c : Code} (h : TC r P (Exit.noGoto Q) N D B w0 L H c) : TC r P Q N D B w0 L H (.scope c) := fun a w hf hs => wpIn_scope' (h a w hf hs)
theorem TQ_scope_ret (h : TQ Q N D B w0 L H .ret) : TQ (Exit.noGoto Q) N D B w0 L H .ret := h
/-- A map (or none) in which i is true exactly where o says so. -/
def OutH (mo : Option Nat) (o : Nat → Bool) (h : Hp) : Prop :=
  (mo = none ∧ h = [] ∧ ∀ i, o i = false) ∨ ∃ m es clk, ∃ f : Int → Option Value, mo = some m ∧ h = [(m, .obj (.map es clk))] ∧ MR .i64 es.toList f ∧ ∀ i : Nat, f (i : Int) = if o i = true then some (.bool true) else none
end
theorem encT_zero (c n : Nat) : List.replicate n (Value.int .i64 0) = encT c n (fun _ _ => 0) := by
  unfold encT
  apply List.ext_getElem?
  intro i
  rw [List.getElem?_map]
  by_cases h : i < n
  · rw [List.getElem?_range h]; simp [List.getElem?_replicate, h]
  · rw [List.getElem?_eq_none (by simpa using h), List.getElem?_eq_none (by simpa using h)]; rfl
theorem encT_congr {c n : Nat} {T T' : Tbl} (hc : 0 < c) (h : ∀ a b, a * c + b < n → b < c → T a b = T' a b) : encT c n T = encT c n T' := by
  unfold encT
  apply List.map_congr_left
  intro j hj
  rw [List.mem_range] at hj
  have h1 : j % c < c := Nat.mod_lt _ hc
  have h2 : j / c * c + j % c = j := by rw [Nat.mul_comm]; exact Nat.div_add_mod j c
  rw [h (j / c) (j % c) (by omega) h1]
end Go.Eng
/- The engine: deleting from a map from numbers. -/
namespace Go.Eng
open Go Go.RowKit
set_option linter.unusedVariables false
set_option linter.unusedSimpArgs false

/-- The entries es stand for f, each key once. -/
structure MU (kd : IntKind) (es : List MapEntry) (f : Int → Option Value) : Prop where
  mr : MR kd es f
  nd : (es.map (·.key)).Nodup
theorem MU.nil {kd : IntKind} : MU kd [] (fun _ => none) := ⟨MR.nil, List.Pairwise.nil⟩
theorem mget_none {kd : IntKind} {k : Int} : ∀ {es : List MapEntry}, (∀ e ∈ es, ∃ m, e.key = .int kd m) → (∀ e ∈ es, e.key ≠ .int kd k) → mget kd es k = none := by
  intro es
  induction es with
  | nil => intro _ _; rfl
  | cons e es ih =>
    intro hk h
    obtain ⟨m, hm⟩ := hk e List.mem_cons_self
    have hmk : m ≠ k := by
      have := h e List.mem_cons_self
      rw [hm] at this
      simpa using this
    simp only [mget, hm, hmk, and_false, if_false]
    exact ih (fun x hx => hk x (List.mem_cons_of_mem _ hx)) (fun x hx => h x (List.mem_cons_of_mem _ hx))
section
variable {r : Option Nat} {P : Program} {Q : Exit → Act → World → Prop} {N : Nat} {D : List Deferred} {B : Nat} {w0 : World} {L : Env} {H : Hp} {ops : Array Oper} {rest : List Oper}
variable {d : Nat} {ty : TypeId} {pos : String} {aft : Array Edge}
theorem run_mapUpdateU {t kt e : TypeId} {kd : IntKind} [hm : MapP P t kt e] [hk : IntP P kt kd] {b : Nat} {es : Array MapEntry} {clk : Nat} {f : Int → Option Value} (hr : MU kd es.toList f) {key : Int} {v : Value} {w : World} (hb : w.heap[b]? = some (.map es clk)) :
    ∃ es' clk', MU kd es'.toList (fupd f key v) ∧ (Instr.mapUpdate t (.map (some b)) (.int kd key) v).run P w = .ok () (w.putObj b (.map es' clk')) := by
  have hget : (getObj b).run P w = .ok (.map es clk) w := by simp [getObj, Sem.run, hb]
  have hset : ∀ o, (setObj b o).run P w = .ok () (w.putObj b o) := fun o => by simp [setObj, Sem.run, hb, World.putObj]
  rcases findNow_int key es.toList 0 hr.mr.keys with ⟨j, x, h1, h2, h3, h4, h5⟩ | ⟨h1, h2, h3⟩
  · refine ⟨es.modify j fun e => { e with key := .int kd key, val := v }, clk, ⟨⟨fun e' he' => ?_, fun k' => ?_⟩, ?_⟩, ?_⟩
    · rw [Array.toList_modify] at he'
      obtain ⟨q, hq⟩ := List.getElem?_of_mem he'
      rw [List.getElem?_modify] at hq
      split at hq
      · obtain ⟨y, hy, rfl⟩ := Option.map_eq_some_iff.1 hq
        exact ⟨key, rfl⟩
      · simp at hq
        exact hr.mr.keys e' (List.mem_of_getElem? (by simpa using hq))
    · rw [Array.toList_modify, mget_modify key v es.toList j x hr.mr.keys h1 h2 h5 k', hr.mr.get]; rfl
    · have : (es.modify j fun e => { e with key := .int kd key, val := v }).toList.map (·.key) = es.toList.map (·.key) := by
        rw [Array.toList_modify]
        apply List.ext_getElem?
        intro q
        rw [List.getElem?_map, List.getElem?_map, List.getElem?_modify]
        by_cases hq : j = q
        · subst hq; rw [h1]; simp [h2]
        · simp [hq]
      rw [this]; exact hr.nd
    · have h1' : es[j]? = some x := by simpa using h1
      have hkts : (Instr.keyThatStays (Value.int kd key) (Value.int kd key)).run P w = .ok (.int kd key) w := by
        simp [Instr.keyThatStays, Instr.sameBits]
      simp [Instr.mapUpdate, run_underlying hm.u, hget, run_checkKey_int, Instr.findKey, run_underlying hk.u, h4, h1', h2, hkts, hset]
  · refine ⟨es.push { key := .int kd key, val := v, born := clk }, clk + 1, ⟨⟨fun e' he' => ?_, fun k' => ?_⟩, ?_⟩, ?_⟩
    · rw [Array.toList_push] at he'
      rcases List.mem_append.1 he' with h | h
      · exact hr.mr.keys e' h
      · rw [List.mem_singleton] at h; subst h; exact ⟨key, rfl⟩
    · rw [Array.toList_push, mget_push key v clk es.toList hr.mr.keys h3 k', hr.mr.get]; rfl
    · rw [Array.toList_push, List.map_append, List.nodup_append]
      refine ⟨hr.nd, by simp, fun a ha b hb => ?_⟩
      obtain ⟨y, hy, rfl⟩ := List.mem_map.1 ha
      simp at hb
      subst hb
      exact h3 y hy
    · simp [Instr.mapUpdate, run_underlying hm.u, hget, run_checkKey_int, Instr.findKey, run_underlying hk.u, h2, hset]
theorem TL_mapSetU {o : Op} {t kt e : TypeId} {kd : IntKind} {x y z : Operand} (ho : o = .mapUpdate t x y z ∨ o = .insert t x y z) [hm : MapP P t kt e] [hk : IntP P kt kd] {b : Nat} {es : Array MapEntry} {clk : Nat} {f : Int → Option Value} {key : Int} {v : Value} {H' : Array MapEntry → Nat → Hp}
    (hx : ev L x = some (.map (some b))) (hy : ev L y = some (.int kd key)) (hz : ev L z = some v) (hu : ∀ es' clk', Upd H b (.obj (.map es clk)) (.obj (.map es' clk')) (H' es' clk')) (hr : MU kd es.toList f)
    (k : ∀ es' clk', MU kd (Array.toList es') (fupd f key v) → TL r P Q N D B w0 L (H' es' clk') ops rest) : TL r P Q N D B w0 L H ops (⟨none, o, ty, pos, aft, none⟩ :: rest) := by
  refine TL_run rfl (by rcases ho with rfl | rfl <;> simp) fun a w hf hs => ?_
  obtain ⟨es', clk', h1, h2⟩ := run_mapUpdateU (P := P) (t := t) hr (key := key) (v := v) (hs.holds b _ (hu es clk).mem).2
  have e : (execOp a.eval ⟨none, o, ty, pos, aft, none⟩).run P w = .ok .skip (w.putObj b (.map es' clk')) := by
    rcases ho with rfl | rfl <;> simp [execOp, hf.ev hx, hf.ev hy, hf.ev hz, h2]
  rw [e]
  exact k es' clk' h1 _ _ hf (hs.putObj _ (hu es' clk'))
end
end Go.Eng
/- The engine: bytes as a string; strings compared. -/
namespace Go.Eng
open Go Go.RowKit
set_option linter.unusedVariables false
set_option linter.unusedSimpArgs false

def bstr (l : List Int) : ByteArray := l.foldl (fun r n => r.push (UInt8.ofNat n.toNat)) ByteArray.empty
def encU8 (x : Int) : List Value := [.int .u8 x]
theorem run_bstr {P : Program} {w : World} {s e t : TypeId} (hs : P.underlying s = some (.slice e)) (he : P.underlying e = some (.int .u8)) (ht : P.underlying t = some .string) {ao : Option Addr} {l : List Int} {c : Nat} (h : Sl w 1 encU8 ao l) :
    (convert s t (.slice ao l.length c)).run P w = .ok (.string (bstr l)) w := by
  rw [run_convert_bytes_string w s t e ao l.length c hs he ht]
  cases ao with
  | none =>
    cases l with
    | nil => simp [Conv.bytesToString, Sem.run_pure, bstr]
    | cons x l => obtain ⟨b, o, hb⟩ := h.some_ (by simp); cases hb
  | some a =>
    have e1 : l.flatMap encU8 = l.map (Value.int .u8) := by
      clear h
      induction l with
      | nil => rfl
      | cons x l ih => rw [List.flatMap_cons, ih]; rfl
    refine run_bytesToString w a l.length c l ?_
    have := run_loadCells_list (P := P) (w := w) a (l.map (Value.int .u8)) (fun j v hj => by
      by_cases hl : l = []
      · subst hl; simp at hj
      · obtain ⟨b, o, hb⟩ := h.some_ hl
        cases hb
        exact h.flat j v (by rw [e1]; exact hj))
    simpa using this
section
variable {r : Option Nat} {P : Program} {Q : Exit → Act → World → Prop} {N : Nat} {D : List Deferred} {B : Nat} {w0 : World} {L : Env} {H : Hp} {ops : Array Oper} {rest : List Oper}
variable {d : Nat} {ty : TypeId} {pos : String} {aft : Array Edge}
theorem TL_convStr {s e t : TypeId} {x : Operand} {ao : Option Addr} {l : List Int} {n c : Nat} (hd : Nat.blt d N = true) [hs : SlcP P s e] [he : IntP P e .u8] (ht : P.underlying t = some .string) (hx : ev L x = some (.slice ao n c)) (hn : n = l.length)
    (hl : ∀ w, SH B w0 w H → Sl w 1 encU8 ao l) (k : TL r P Q N D B w0 ((d, .string (bstr l)) :: L) H ops rest) : TL r P Q N D B w0 L H ops (⟨some d, .convert s t x, ty, pos, aft, none⟩ :: rest) :=
  TL_val (by simp) hd _ (fun a w hf hs' => by
    subst hn
    simp [execOp, hf.ev hx, run_bstr hs.u he.u ht (hl w hs')]) k
theorem TL_eql_str {t t' : TypeId} {x y : Operand} {s : ByteArray} (hd : Nat.blt d N = true) (hx : ev L x = some (.string s)) (hy : ev L y = some (.string s))
    (k : TL r P Q N D B w0 ((d, .bool true) :: L) H ops rest) : TL r P Q N D B w0 L H ops (⟨some d, .binOp .eql t x y t', ty, pos, aft, none⟩ :: rest) :=
  TL_val (by simp) hd _ (fun a w hf _ => by
    have h1 : (eqGuard .eql t x y (.string s) (.string s)).run P w = .ok () w := rfl
    have h2 : (Go.binOp .eql t (.string s) (.string s)).run P w = .ok (.bool true) w := by simp [Go.binOp, Op.stringOp]
    simp only [execOp, hf.ev hx, hf.ev hy, Sem.run_bind, h1, Result.andThen, h2]; rfl) k
end
end Go.Eng

namespace Go.Eng
open Go Go.RowKit
set_option linter.unusedVariables false

theorem Sl.drop {α : Type} {w : World} {k : Nat} {enc : α → List Value} {ao : Option Addr} {l : List α} (h : Sl w k enc ao l) (i c : Nat) (hc : l.length ≤ c) :
    Sl w k enc (if c = i then ao else ao.map (·.add (i * k))) (l.drop i) := by
  by_cases hd : l.drop i = []
  · rw [hd]; exact Sl.nil _ _ _ _
  · have hl : l ≠ [] := fun e => hd (by rw [e]; simp)
    have hi : i < l.length := by
      apply Classical.byContradiction
      intro hn
      exact hd (List.drop_eq_nil_of_le (by omega))
    obtain ⟨b, o, rfl⟩ := h.some_ hl
    rw [if_neg (by omega)]
    have e : Option.map (fun x : Addr => x.add (i * k)) (some (⟨b, o, none⟩ : Addr)) = some ⟨b, o + i * k, none⟩ := by simp [add_plain']
    rw [e]
    refine ⟨fun x hx => h.enc_len x (List.mem_of_mem_drop hx), fun _ => ⟨b, _, rfl⟩, fun j u hj f v hv => ?_⟩
    rw [List.getElem?_drop] at hj
    have := h.cell (i + j) u hj f v hv
    simp only [elA] at this ⊢
    rw [show o + i * k + (j * k + f) = o + ((i + j) * k + f) by rw [Nat.add_mul]; omega]
    exact this
section
variable {r : Option Nat} {P : Program} {Q : Exit → Act → World → Prop} {N : Nat} {D : List Deferred} {B : Nat} {w0 : World} {L : Env} {H : Hp} {ops : Array Oper} {rest : List Oper}
variable {d : Nat} {ty : TypeId} {pos : String} {aft : Array Edge}
theorem TL_hp {H' : Hp} (hp : H'.Perm H) (h : TL r P Q N D B w0 L H' ops rest) : TL r P Q N D B w0 L H ops rest := TL.weaken (Sub.refl _) (fun w hs => hs.perm hp) h
theorem TC_hp {c : Code} {H' : Hp} (hp : H'.Perm H) (h : TC r P Q N D B w0 L H' c) : TC r P Q N D B w0 L H c := TC.weaken (Sub.refl _) (fun w hs => hs.perm hp) h
theorem TL_sliceTo {t e : TypeId} {x y2 : Operand} {sz : Nat} {ag : Bool} {z : List Value} {ao : Option Addr} {n c : Nat} {k2 : IntKind} {m2 : Int} (j : Nat) (hd : Nat.blt d N = true) [hu : SlcP P t e] [he : TyP P e sz ag z]
    (hx : ev L x = some (.slice ao n c)) (h2 : ev L y2 = some (.int k2 m2)) (e2 : m2 = (j : Int)) (hjc : j ≤ c)
    (k : TL r P Q N D B w0 ((d, .slice (if c = 0 then ao else ao.map (·.add 0)) j c) :: L) H ops rest) : TL r P Q N D B w0 L H ops (⟨some d, .slice t x none (some y2) none, ty, pos, aft, none⟩ :: rest) :=
  TL_val (by simp) hd _ (fun a w hf _ => by
    obtain ⟨q, _, hj, hsz, _, _⟩ := he.info
    have g1 : (Go.sizeOf e).run P w = .ok sz w := by rw [run_sizeOf w hj]; simp [Program.cellsOf, hj, hsz]
    have s2 := fun cd => sliceBound_run (P := P) (code := cd) (kd := k2) e2 hjc w
    simp [execOp, hf.ev hx, hf.ev h2, Instr.sliceAt, Instr.slice, run_underlying hu.u, Instr.sliceBounds, g1, s2]) k
theorem TL_sliceFrom {t e : TypeId} {x y1 : Operand} {sz : Nat} {ag : Bool} {z : List Value} {ao : Option Addr} {n c : Nat} {k1 : IntKind} {m1 : Int} (i : Nat) (hd : Nat.blt d N = true) [hu : SlcP P t e] [he : TyP P e sz ag z]
    (hx : ev L x = some (.slice ao n c)) (h1 : ev L y1 = some (.int k1 m1)) (e1 : m1 = (i : Int)) (hin : i ≤ n)
    (k : TL r P Q N D B w0 ((d, .slice (if c = i then ao else ao.map (·.add (i * sz))) (n - i) (c - i)) :: L) H ops rest) : TL r P Q N D B w0 L H ops (⟨some d, .slice t x (some y1) none none, ty, pos, aft, none⟩ :: rest) :=
  TL_val (by simp) hd _ (fun a w hf _ => by
    obtain ⟨q, _, hj, hsz, _, _⟩ := he.info
    have g1 : (Go.sizeOf e).run P w = .ok sz w := by rw [run_sizeOf w hj]; simp [Program.cellsOf, hj, hsz]
    have s2 := fun cd => sliceBound_run (P := P) (code := cd) (kd := k1) e1 hin w
    simp [execOp, hf.ev hx, hf.ev h1, Instr.sliceAt, Instr.slice, run_underlying hu.u, Instr.sliceBounds, g1, s2]) k
end
end Go.Eng
