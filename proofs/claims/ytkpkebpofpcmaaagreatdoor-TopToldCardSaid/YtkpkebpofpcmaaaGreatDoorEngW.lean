/- The engine: slices that are made; tables. -/
import Derived.Test.YtkpkebpofpcmaaaGreatDoorEngD
import Derived.Laws.MakeOwn
import Derived.Scope
import Derived.Laws.BytesString
namespace Go.Eng
open Go Go.RowKit
set_option linter.unusedVariables false

section
variable {r : Option Nat} {P : Program} {Q : Exit → Act → World → Prop} {N : Nat} {D : List Deferred} {B : Nat} {w0 : World} {L : Env} {H : Hp} {ops : Array Oper} {rest : List Oper}
variable {d : Nat} {ty : TypeId} {pos : String} {aft : Array Edge}
end

/-! Tables. -/
abbrev Tbl := Nat → Nat → Int
def updT (T : Tbl) (i k : Nat) (v : Int) : Tbl := fun a b => if a = i ∧ b = k then v else T a b
/-- The cells of a table of r rows and c columns. -/
def encT (c n : Nat) (T : Tbl) : List Value := (List.range n).map (fun j => .int .i64 (T (j / c) (j % c)))
theorem encT_len (c n : Nat) (T : Tbl) : (encT c n T).length = n := by simp [encT]
theorem divmod {c i k : Nat} (hk : k < c) : (i * c + k) / c = i ∧ (i * c + k) % c = k := by
  have hc : 0 < c := by omega
  refine ⟨?_, ?_⟩
  · rw [Nat.mul_comm, Nat.mul_add_div hc, Nat.div_eq_of_lt hk]; rfl
  · rw [Nat.mul_comm, Nat.mul_add_mod, Nat.mod_eq_of_lt hk]
theorem takeN1 {l : List Value} {o : Nat} {v : Value} (h : l[o]? = some v) : takeN 1 (dropN o l) = some [v] := by
  rw [dropN_eq]
  have : (l.drop o)[0]? = some v := by simpa using h
  cases hd : l.drop o with
  | nil => rw [hd] at this; cases this
  | cons x xs => rw [hd] at this; simp at this; subst this; rfl
theorem encT_get {c n i k : Nat} (T : Tbl) (hk : k < c) (hn : i * c + k < n) {o : Nat} (ho : o = i * c + k) : takeN 1 (dropN o (encT c n T)) = some [.int .i64 (T i k)] := by
  subst ho
  apply takeN1
  simp [encT, hn, divmod hk]
theorem putN1 {l : List Value} {o : Nat} (v : Value) (h : o < l.length) : putN o [v] l = some (l.set o v) := by
  rw [putN_put (by simp; omega)]
  congr 1
  rw [List.set_eq_take_append_cons_drop, if_pos h]
  simp
theorem encT_put {c n i k : Nat} (T : Tbl) (hk : k < c) (hn : i * c + k < n) (v : Int) {o : Nat} (ho : o = i * c + k) : putN o [.int .i64 v] (encT c n T) = some (encT c n (updT T i k v)) := by
  subst ho
  rw [putN1 _ (by rw [encT_len]; exact hn)]
  congr 1
  apply List.ext_getElem?
  intro j
  rw [List.getElem?_set, encT_len]
  by_cases hj : i * c + k = j
  · subst hj
    rw [if_pos rfl, if_pos hn]
    simp [encT, hn, divmod hk, updT]
  · rw [if_neg hj]
    simp only [encT, List.getElem?_map]
    by_cases hjn : j < n
    · rw [List.getElem?_range hjn]
      simp only [Option.map_some, updT]
      rw [if_neg]
      rintro ⟨h1, h2⟩
      have := Nat.div_add_mod j c
      rw [h1, h2, Nat.mul_comm] at this
      exact hj this
    · rw [List.getElem?_eq_none (by simpa using hjn)]; rfl
/-- One row's cells. -/
def encRw (m : Nat) (T : Tbl) (i : Nat) : List Value := (List.range m).map (fun k => .int .i64 (T i k))
/-- Rows, each in a block of its own. -/
def rowsH (ty : TypeId) (m : Nat) (T : Tbl) : List Nat → Nat → Hp
  | [], _ => []
  | b :: bs, i => (b, .cells (encRw m T i) ty) :: rowsH ty m T bs (i + 1)
end Go.Eng
/- The engine: scopes of labels; maps from numbers to truths. -/
namespace Go.Eng
open Go Go.RowKit
set_option linter.unusedVariables false

theorem stepR_scope' {P : Program} {b : Frame} {a : Act} {k : List Item} {cs : List Frame} {w : World} {c : Code} : step P (lone (b.atR a (.code (.scope c) :: k)) cs w) = .next (lone (b.atR a (.code c :: .inScope c :: k)) cs w) :=
  step_lone_go (by simp [stepG, stepG.exec, Frame.atR])
theorem stepR_inScope' {P : Program} {b : Frame} {a : Act} {k : List Item} {cs : List Frame} {w : World} {c : Code} : step P (lone (b.atR a (.inScope c :: k)) cs w) = .next (lone (b.atR a k) cs w) :=
  step_lone_go (by simp [stepG, stepG.exec, Frame.atR])
theorem wpIn_scope' {F : Fence} {n : Nat} {P : Program} {Q : Exit → Act → World → Prop} {a : Act} {w : World} {c : Code} (h : c.wpIn F n P (Exit.noGoto Q) a w) : (Code.scope c).wpIn F n P Q a w := by
  intro b k cs hro hb hr
  have h0 : (lone (b.atR a (.code (.scope c) :: k)) cs w).fenced P F := fenced_calm hb hr rfl
  obtain ⟨e, a₁, w₁, hq, harr⟩ := h b (.inScope c :: k) cs hro hb hr
  cases e with
  | normal => exact ⟨.normal, a₁, w₁, hq, .head h0 stepR_scope' (StepsIn.trans harr (.one (fenced_calm hb hr rfl) stepR_inScope'))⟩
  | exit id' =>
    have hx : exitTo id' (.inScope c :: k) = exitTo id' k := by simp [exitTo]
    exact ⟨.exit id', a₁, w₁, hq, fun k' hk => .head h0 stepR_scope' (harr.1 k' (by rw [hx]; exact hk)),
      fun hr' hk => let ⟨k₁, h1, h2⟩ := harr.2 hr' (by rw [hx]; exact hk); ⟨k₁, h1, .head h0 stepR_scope' h2⟩⟩
  | goto l => exact hq.elim
  | ret => exact ⟨_, a₁, w₁, hq, .of_steps (.one h0 stepR_scope') harr⟩
  | panic ch => exact ⟨_, a₁, w₁, hq, .of_steps (.one h0 stepR_scope') harr⟩
  | outgrown => exact ⟨_, a₁, w₁, hq, .of_steps (.one h0 stepR_scope') harr⟩
section
variable {r : Option Nat} {P : Program} {Q : Exit → Act → World → Prop} {N : Nat} {D : List Deferred} {B : Nat} {w0 : World} {L : Env} {H : Hp} {ops : Array Oper} {rest : List Oper}
variable {d : Nat} {ty : TypeId} {pos : String} {aft : Array Edge}
theorem TC_scope {c : Code} (h : TC r P (Exit.noGoto Q) N D B w0 L H c) : TC r P Q N D B w0 L H (.scope c) := fun a w hf hs => wpIn_scope' (h a w hf hs)
theorem TQ_scope_ret (h : TQ Q N D B w0 L H .ret) : TQ (Exit.noGoto Q) N D B w0 L H .ret := h
/-- A map (or none) in which i is true exactly where o says so. -/
def OutH (mo : Option Nat) (o : Nat → Bool) (h : Hp) : Prop :=
  (mo = none ∧ h = [] ∧ ∀ i, o i = false) ∨ ∃ m es clk, ∃ f : Int → Option Value, mo = some m ∧ h = [(m, .obj (.map es clk))] ∧ MR .i64 es.toList f ∧ ∀ i : Nat, f (i : Int) = if o i = true then some (.bool true) else none
end
theorem encT_zero (c n : Nat) : List.replicate n (Value.int .i64 0) = encT c n (fun _ _ => 0) := by
  unfold encT
  apply List.ext_getElem?
  intro i
  rw [List.getElem?_map]
  by_cases h : i < n
  · rw [List.getElem?_range h]; simp [List.getElem?_replicate, h]
  · rw [List.getElem?_eq_none (by simpa using h), List.getElem?_eq_none (by simpa using h)]; rfl
theorem encT_congr {c n : Nat} {T T' : Tbl} (hc : 0 < c) (h : ∀ a b, a * c + b < n → b < c → T a b = T' a b) : encT c n T = encT c n T' := by
  unfold encT
  apply List.map_congr_left
  intro j hj
  rw [List.mem_range] at hj
  have h1 : j % c < c := Nat.mod_lt _ hc
  have h2 : j / c * c + j % c = j := by rw [Nat.mul_comm]; exact Nat.div_add_mod j c
  rw [h (j / c) (j % c) (by omega) h1]
end Go.Eng
/- The engine: deleting from a map from numbers. -/
namespace Go.Eng
open Go Go.RowKit
set_option linter.unusedVariables false
set_option linter.unusedSimpArgs false

/-- The entries es stand for f, each key once. -/
structure MU (kd : IntKind) (es : List MapEntry) (f : Int → Option Value) : Prop where
  mr : MR kd es f
  nd : (es.map (·.key)).Nodup
section
variable {r : Option Nat} {P : Program} {Q : Exit → Act → World → Prop} {N : Nat} {D : List Deferred} {B : Nat} {w0 : World} {L : Env} {H : Hp} {ops : Array Oper} {rest : List Oper}
variable {d : Nat} {ty : TypeId} {pos : String} {aft : Array Edge}
end
end Go.Eng
/- The engine: bytes as a string; strings compared. -/
namespace Go.Eng
open Go Go.RowKit
set_option linter.unusedVariables false
set_option linter.unusedSimpArgs false

def bstr (l : List Int) : ByteArray := l.foldl (fun r n => r.push (UInt8.ofNat n.toNat)) ByteArray.empty
def encU8 (x : Int) : List Value := [.int .u8 x]
theorem run_bstr {P : Program} {w : World} {s e t : TypeId} (hs : P.underlying s = some (.slice e)) (he : P.underlying e = some (.int .u8)) (ht : P.underlying t = some .string) {ao : Option Addr} {l : List Int} {c : Nat} (h : Sl w 1 encU8 ao l) :
    (convert s t (.slice ao l.length c)).run P w = .ok (.string (bstr l)) w := by
  rw [run_convert_bytes_string w s t e ao l.length c hs he ht]
  cases ao with
  | none =>
    cases l with
    | nil => simp [Conv.bytesToString, Sem.run_pure, bstr]
    | cons x l => obtain ⟨b, o, hb⟩ := h.some_ (by simp); cases hb
  | some a =>
    have e1 : l.flatMap encU8 = l.map (Value.int .u8) := by
      clear h
      induction l with
      | nil => rfl
      | cons x l ih => rw [List.flatMap_cons, ih]; rfl
    refine run_bytesToString w a l.length c l ?_
    have := run_loadCells_list (P := P) (w := w) a (l.map (Value.int .u8)) (fun j v hj => by
      by_cases hl : l = []
      · subst hl; simp at hj
      · obtain ⟨b, o, hb⟩ := h.some_ hl
        cases hb
        exact h.flat j v (by rw [e1]; exact hj))
    simpa using this
section
variable {r : Option Nat} {P : Program} {Q : Exit → Act → World → Prop} {N : Nat} {D : List Deferred} {B : Nat} {w0 : World} {L : Env} {H : Hp} {ops : Array Oper} {rest : List Oper}
variable {d : Nat} {ty : TypeId} {pos : String} {aft : Array Edge}
theorem TL_convStr {s e t : TypeId} {x : Operand} {ao : Option Addr} {l : List Int} {n c : Nat} (hd : Nat.blt d N = true) [hs : SlcP P s e] [he : IntP P e .u8] (ht : P.underlying t = some .string) (hx : ev L x = some (.slice ao n c)) (hn : n = l.length)
    (hl : ∀ w, SH B w0 w H → Sl w 1 encU8 ao l) (k : TL r P Q N D B w0 ((d, .string (bstr l)) :: L) H ops rest) : TL r P Q N D B w0 L H ops (⟨some d, .convert s t x, ty, pos, aft, none⟩ :: rest) :=
  TL_val (by simp) hd _ (fun a w hf hs' => by
    subst hn
    simp [execOp, hf.ev hx, run_bstr hs.u he.u ht (hl w hs')]) k
theorem TL_eql_str {t t' : TypeId} {x y : Operand} {s : ByteArray} (hd : Nat.blt d N = true) (hx : ev L x = some (.string s)) (hy : ev L y = some (.string s))
    (k : TL r P Q N D B w0 ((d, .bool true) :: L) H ops rest) : TL r P Q N D B w0 L H ops (⟨some d, .binOp .eql t x y t', ty, pos, aft, none⟩ :: rest) :=
  TL_val (by simp) hd _ (fun a w hf _ => by
    have h1 : (eqGuard .eql t x y (.string s) (.string s)).run P w = .ok () w := rfl
    have h2 : (Go.binOp .eql t (.string s) (.string s)).run P w = .ok (.bool true) w := by simp [Go.binOp, Op.stringOp]
    simp only [execOp, hf.ev hx, hf.ev hy, Sem.run_bind, h1, Result.andThen, h2]; rfl) k
end
end Go.Eng
