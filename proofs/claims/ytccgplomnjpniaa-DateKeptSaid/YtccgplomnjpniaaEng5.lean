/- The engine, part 5: slices that are read, rows that grow by append. -/
import Derived.Test.YtccgplomnjpniaaEng4
namespace Go.Eng
open Go Go.RowKit

/-- The slot f of element i of the slice at ao, elements of k cells each. -/
def elA (ao : Option Addr) (k i f : Nat) : Addr := match ao with
  | some a => ⟨a.block, a.off + (i * k + f), none⟩
  | none => ⟨0, 0, none⟩

/-- In world w the slice (ao, its length that of l) reads as l: element i's cells are 'enc l[i]', k of them. -/
structure Sl {α : Type} (w : World) (k : Nat) (enc : α → List Value) (ao : Option Addr) (l : List α) : Prop where
  enc_len : ∀ x ∈ l, (enc x).length = k
  some_ : l ≠ [] → ∃ b o, ao = some ⟨b, o, none⟩
  cell : ∀ i x, l[i]? = some x → ∀ f v, (enc x)[f]? = some v → w.cell? (elA ao k i f) = some v

theorem Sl.nil {α : Type} (w : World) (k : Nat) (enc : α → List Value) (ao : Option Addr) : Sl w k enc ao ([] : List α) :=
  ⟨fun x hx => (by cases hx), fun h => absurd rfl h, fun i x h => (by simp at h)⟩

theorem Sl.mono {α : Type} {w w' : World} {k : Nat} {enc : α → List Value} {ao : Option Addr} {l : List α} (h : Sl w k enc ao l) (hb : Below w.heap.size w w') : Sl w' k enc ao l :=
  ⟨h.enc_len, h.some_, fun i x hx f v hv => by
    have := h.cell i x hx f v hv
    rw [hb.cell (World.block_lt_of_cell? w _ this)]
    exact this⟩

theorem Sl.take {α : Type} {w : World} {k : Nat} {enc : α → List Value} {ao : Option Addr} {l : List α} (h : Sl w k enc ao l) (n : Nat) : Sl w k enc ao (l.take n) :=
  ⟨fun x hx => h.enc_len x (List.mem_of_mem_take hx), fun hn => h.some_ (fun e => hn (by simp [e])), fun i x hx => h.cell i x (by
    rw [List.getElem?_take] at hx
    split at hx
    · exact hx
    · cases hx)⟩

/-- What the heap of the call's entry said of slices holds on. -/
theorem SH.sl {α : Type} {w0 w : World} {H : Hp} {k : Nat} {enc : α → List Value} {ao : Option Addr} {l : List α} (h : SH w0.heap.size w0 w H) (hs : Sl w0 k enc ao l) : Sl w k enc ao l := hs.mono h.below

/-- A slice over a block of the call's own. -/
theorem Sl.of_blk {α : Type} {B : Nat} {w0 w : World} {H : Hp} {k : Nat} {enc : α → List Value} {b : Nat} {cs : List Value} {T : TypeId} {l : List α} (h : SH B w0 w H) (hm : (b, .cells cs T) ∈ H)
    (hk : ∀ x ∈ l, (enc x).length = k) (hc : ∃ more, cs = l.flatMap enc ++ more) : Sl w k enc (some ⟨b, 0, none⟩) l := by
  refine ⟨hk, fun _ => ⟨b, 0, rfl⟩, fun i x hx f v hv => ?_⟩
  obtain ⟨more, rfl⟩ := hc
  show w.cell? ⟨b, 0 + (i * k + f), none⟩ = _
  rw [cell_of (h.holds _ _ hm).2, Nat.zero_add]
  have key : ∀ (l : List α) (i : Nat) (more : List Value), (∀ x ∈ l, (enc x).length = k) → l[i]? = some x → (l.flatMap enc ++ more)[i * k + f]? = some v := by
    intro l
    induction l with
    | nil => intro i more _ h; simp at h
    | cons y l ih =>
      intro i more hk h
      have hy := hk y List.mem_cons_self
      cases i with
      | zero =>
        simp at h; subst h
        rw [Nat.zero_mul, Nat.zero_add, List.flatMap_cons, List.append_assoc, List.getElem?_append_left (List.getElem?_eq_some_iff.1 hv).1]
        exact hv
      | succ i =>
        rw [List.flatMap_cons, List.append_assoc, List.getElem?_append_right (by rw [hy, Nat.succ_mul]; omega), hy, show (i + 1) * k + f - k = i * k + f by rw [Nat.succ_mul]; omega]
        exact ih i more (fun x hx => hk x (List.mem_cons_of_mem _ hx)) (by simpa using h)
  exact key l i more hk hx

section
variable {r : Option Nat} {P : Program} {Q : Exit → Act → World → Prop} {N : Nat} {D : List Deferred} {B : Nat} {w0 : World} {L : Env} {H : Hp} {ops : Array Oper} {rest : List Oper}
variable {d : Nat} {ty : TypeId} {pos : String} {aft : Array Edge}

/-- An index within the length. -/
theorem TL_index {α : Type} {t e : TypeId} {x y : Operand} {sz : Nat} {ag : Bool} {z : List Value} {enc : α → List Value} {ao : Option Addr} {l : List α} {n c : Nat} {kd : IntKind} {m : Int} (i : Nat) (hd : Nat.blt d N = true)
    [hu : SlcP P t e] [he : TyP P e sz ag z] (hx : ev L x = some (.slice ao n c)) (hy : ev L y = some (.int kd m)) (hs : ∀ w, SH B w0 w H → Sl w sz enc ao l) (hm : m = (i : Int)) (hi : i < l.length) (hn : l.length ≤ n)
    (k : TL r P Q N D B w0 ((d, .pointer (some (elA ao sz i 0))) :: L) H ops rest) : TL r P Q N D B w0 L H ops (⟨some d, .indexAddr t x y, ty, pos, aft, none⟩ :: rest) :=
  TL_val (by simp) hd _ (fun a w hf hss => by
    obtain ⟨j, _, hj, hsz, _, _⟩ := he.info
    obtain ⟨b, o, rfl⟩ := (hs w hss).some_ (by intro h; simp [h] at hi)
    subst hm
    have h1 : i < n := by omega
    simp [execOp, hf.ev hx, hf.ev hy, Instr.indexAt, run_underlying hu.u, asIntOf, sizeOf, typeInfo, hj, hsz, elA, add_plain']
    omega) k
theorem elA_add (ao : Option Addr) (k i f o : Nat) (h : ∃ b o, ao = some ⟨b, o, none⟩) : (elA ao k i f).add o = elA ao k i (f + o) := by
  obtain ⟨b, o', rfl⟩ := h
  simp [elA, add_plain', Nat.add_assoc]
theorem TL_fieldAddr_el {α : Type} {s f : Nat} {x : Operand} {off sz i o : Nat} {enc : α → List Value} {ao : Option Addr} {l : List α} (hd : Nat.blt d N = true) [hF : FldP P s f off] (hx : ev L x = some (.pointer (some (elA ao sz i o))))
    (hs : ∀ w, SH B w0 w H → Sl w sz enc ao l) (hl : l ≠ [])
    (k : TL r P Q N D B w0 ((d, .pointer (some (elA ao sz i (o + off)))) :: L) H ops rest) : TL r P Q N D B w0 L H ops (⟨some d, .fieldAddr s x f, ty, pos, aft, none⟩ :: rest) :=
  TL_val (by simp) hd _ (fun a w hf hss => by
    simp [execOp, hf.ev hx, hF.run (elA ao sz i o) w, elA_add _ _ _ _ _ ((hs w hss).some_ hl)]) k
theorem TL_load_el1 {α : Type} {t : TypeId} {sz' : Nat} {z : List Value} {x : Operand} {sz i o : Nat} {enc : α → List Value} {ao : Option Addr} {l : List α} {u : α} {v : Value} (hd : Nat.blt d N = true) [ht : TyP P t sz' false z] (hx : ev L x = some (.pointer (some (elA ao sz i o))))
    (hs : ∀ w, SH B w0 w H → Sl w sz enc ao l) (hu : l[i]? = some u) (hv : takeN 1 (dropN o (enc u)) = some [v])
    (k : TL r P Q N D B w0 ((d, v) :: L) H ops rest) : TL r P Q N D B w0 L H ops (⟨some d, .load t x, ty, pos, aft, none⟩ :: rest) :=
  TL_val (by simp) hd _ (fun a w hf hss => by
    have h1 := takeN_some hv
    rw [dropN_eq] at h1
    have h2 : (enc u)[o]? = some v := by
      have := congrArg (·[0]?) h1.1
      simpa [List.getElem?_take] using this.symm
    have hc := (hs w hss).cell i u hu o v h2
    simp [execOp, hf.ev hx, Instr.loadAt, Instr.sureAddr, run_load1 hc]) k
theorem TL_load_eln {α : Type} {t : TypeId} {sz' : Nat} {z : List Value} {x : Operand} {sz i o : Nat} {enc : α → List Value} {ao : Option Addr} {l : List α} {u : α} {vs : List Value} (hd : Nat.blt d N = true) [ht : TyP P t sz' true z] (hx : ev L x = some (.pointer (some (elA ao sz i o))))
    (hs : ∀ w, SH B w0 w H → Sl w sz enc ao l) (hu : l[i]? = some u) (hv : takeN sz' (dropN o (enc u)) = some vs)
    (k : TL r P Q N D B w0 ((d, .agg vs.toArray) :: L) H ops rest) : TL r P Q N D B w0 L H ops (⟨some d, .load t x, ty, pos, aft, none⟩ :: rest) :=
  TL_val (by simp) hd _ (fun a w hf hss => by
    have h1 := takeN_some hv
    rw [dropN_eq] at h1
    have hl : vs.length = sz' := by rw [h1.1]; simp at h1 ⊢; omega
    obtain ⟨b, o', rfl⟩ := (hs w hss).some_ (by intro h; simp [h] at hu)
    have := run_loadn (P := P) (t := t) (b := b) (o := o' + (i * sz + o)) (w := w) hl (fun j v hj => by
      have h2 : (enc u)[o + j]? = some v := by
        rw [h1.1, List.getElem?_take] at hj
        split at hj
        · simpa using hj
        · cases hj
      have hc := (hs w hss).cell i u hu _ v h2
      have e : elA (some ⟨b, o', none⟩) sz i (o + j) = ⟨b, o' + (i * sz + o) + j, none⟩ := by simp [elA, Nat.add_assoc]
      rw [e] at hc; exact hc)
    simp [execOp, hf.ev hx, Instr.loadAt, Instr.sureAddr, elA, this]) k

/-! ### Rows that grow -/
/-- A slice of the call's own that reads as l: nil, or the head of a whole block. 'ob': that block. -/
def Row {α : Type} (T : TypeId) (k : Nat) (enc : α → List Value) (ao : Option Addr) (cap : Nat) (ob : Hp) (l : List α) : Prop :=
  (∀ x ∈ l, (enc x).length = k ∧ oneCells (enc x) = true) ∧
  ((ao = none ∧ cap = 0 ∧ ob = [] ∧ l = []) ∨
   ∃ b more, ao = some ⟨b, 0, none⟩ ∧ ob = [(b, .cells (l.flatMap enc ++ more) T)] ∧ l.length ≤ cap ∧ cap ≤ maxLen ∧ (l.flatMap enc ++ more).length = cap * k)

theorem Row.nil {α : Type} (T : TypeId) (k : Nat) (enc : α → List Value) : Row T k enc none 0 [] ([] : List α) := ⟨fun x hx => (by cases hx), .inl ⟨rfl, rfl, rfl, rfl⟩⟩

theorem Row.sl {α : Type} {T : TypeId} {k : Nat} {enc : α → List Value} {ao : Option Addr} {cap : Nat} {ob : Hp} {l : List α} {B : Nat} {w0 w : World} {H : Hp} (h : Row T k enc ao cap ob l) (hs : SH B w0 w H) (hm : ∀ p ∈ ob, p ∈ H) : Sl w k enc ao l := by
  rcases h.2 with ⟨rfl, _, _, rfl⟩ | ⟨b, more, rfl, rfl, _, _, _⟩
  · exact Sl.nil _ _ _ _
  · exact Sl.of_blk hs (hm _ List.mem_cons_self) (fun x hx => (h.1 x hx).1) ⟨more, rfl⟩
theorem Row.le {α : Type} {T : TypeId} {k : Nat} {enc : α → List Value} {ao : Option Addr} {cap : Nat} {ob : Hp} {l : List α} (h : Row T k enc ao cap ob l) : l.length ≤ cap := by
  rcases h.2 with ⟨_, _, _, rfl⟩ | ⟨_, _, _, _, h, _⟩
  · simp
  · exact h
theorem Row.ext {α : Type} {T : TypeId} {k : Nat} {enc : α → List Value} {ao : Option Addr} {cap : Nat} {ob : Hp} {l : List α} (h : Row T k enc ao cap ob l) {β : Type} {enc' : β → List Value} {l' : List β}
    (he : ∀ x ∈ l', (enc' x).length = k ∧ oneCells (enc' x) = true) (hl : l'.length = l.length) (hf : l'.flatMap enc' = l.flatMap enc) : Row T k enc' ao cap ob l' := by
  refine ⟨he, ?_⟩
  rcases h.2 with ⟨rfl, rfl, rfl, rfl⟩ | ⟨b, more, rfl, rfl, h1, h2, h3⟩
  · exact .inl ⟨rfl, rfl, rfl, List.eq_nil_of_length_eq_zero (by simpa using hl)⟩
  · exact .inr ⟨b, more, rfl, by rw [hf], by omega, h2, by rw [hf]; exact h3⟩

theorem flat_oneCells {α : Type} {enc : α → List Value} : ∀ (l : List α), (∀ x ∈ l, oneCells (enc x) = true) → ∀ u ∈ l.flatMap enc, u.oneCell' = true := by
  intro l h u hu
  obtain ⟨x, hx, hux⟩ := List.mem_flatMap.1 hu
  exact oneCells_mem (h x hx) u hux
theorem flat_len {α : Type} {enc : α → List Value} {k : Nat} : ∀ (l : List α), (∀ x ∈ l, (enc x).length = k) → (l.flatMap enc).length = l.length * k := by
  intro l
  induction l with
  | nil => intro _; simp
  | cons x l ih => intro hk; simp [List.flatMap_cons, ih (fun y hy => hk y (List.mem_cons_of_mem _ hy)), hk x List.mem_cons_self, Nat.add_mul, Nat.add_comm]
/-- The flat cells of a slice that is read. -/
theorem Sl.flat {α : Type} {w : World} {k : Nat} {enc : α → List Value} {b o : Nat} {l : List α} (h : Sl w k enc (some ⟨b, o, none⟩) l) : ∀ j v, (l.flatMap enc)[j]? = some v → w.cell? ((⟨b, o, none⟩ : Addr).add j) = some v := by
  intro j v hj
  rw [add_plain']
  have key : ∀ (l : List α) (i0 : Nat), (∀ x ∈ l, (enc x).length = k) → (∀ i x, l[i]? = some x → ∀ f v, (enc x)[f]? = some v → w.cell? ⟨b, o + ((i0 + i) * k + f), none⟩ = some v) → ∀ j, (l.flatMap enc)[j]? = some v → w.cell? ⟨b, o + (i0 * k + j), none⟩ = some v := by
    intro l
    induction l with
    | nil => intro i0 _ _ j hj; simp at hj
    | cons x l ih =>
      intro i0 hk hc j hj
      rw [List.flatMap_cons] at hj
      have hx := hk x List.mem_cons_self
      rcases Nat.lt_or_ge j (enc x).length with h1 | h1
      · rw [List.getElem?_append_left h1] at hj
        exact hc 0 x rfl j v hj
      · rw [List.getElem?_append_right h1, hx] at hj
        have := ih (i0 + 1) (fun y hy => hk y (List.mem_cons_of_mem _ hy)) (fun i y hy => by
          have := hc (i + 1) y (by simpa using hy)
          rw [show i0 + 1 + i = i0 + (i + 1) by omega]; exact this) (j - k) hj
        rw [show i0 * k + j = (i0 + 1) * k + (j - k) by rw [Nat.succ_mul]; omega]
        exact this
  have := key l 0 h.enc_len (fun i x hx f v hv => by rw [Nat.zero_add]; exact h.cell i x hx f v hv) j hj
  simpa using this

theorem arr_eq1 (a : List Value) (Z : Array Value) : a.toArray ++ Z = (a ++ Z.toList).toArray := by apply Array.ext'; simp
theorem arr_eq2 (a b : List Value) (Z : Array Value) : a.toArray ++ b.toArray ++ Z = (a ++ b ++ Z.toList).toArray := by apply Array.ext'; simp
/-- append where the slice has no room: a new row. -/
theorem run_append_new {α : Type} {t ty e : TypeId} {sz : Nat} {ag : Bool} {z : List Value} {by_ : Nat} {enc : α → List Value} {ao ao2 : Option Addr} {cap c2 : Nat} {l l2 : List α} {w : World}
    [hu : SlcP P t e] [he : TyP P e sz ag z] (hzl : z.length = sz) [hby : BytP P e by_] (hs : Sl w sz enc ao l) (hs2 : Sl w sz enc ao2 l2) (hnil : l = [] → ao = none → cap = 0)
    (hg : cap < l.length + l2.length) (hle : l.length ≤ cap) (h1 : ∀ u ∈ l ++ l2, oneCells (enc u) = true) (hb : (l.length + l2.length) * by_ ≤ 140737488355328) (hm : l.length + l2.length ≤ maxLen) (hss : SH B w0 w H) :
    ∃ b cap' ob' w', Row e sz enc (some ⟨b, 0, none⟩) cap' ob' (l ++ l2) ∧ (Builtin.append_ #[t, t] ty #[.slice ao l.length cap, .slice ao2 l2.length c2]).run P w = .ok (.slice (some ⟨b, 0, none⟩) (l ++ l2).length cap') w' ∧ SH B w0 w' (ob' ++ H) := by
  obtain ⟨i, v, hi, hsi, hz, hc⟩ := he.info
  have hbi : i.bytes = by_ := by rw [← hby.b]; simp [Program.bytesOf, hi]
  have hl2 : l2 ≠ [] := by intro h; subst h; simp at hg; omega
  obtain ⟨b2, o2, rfl⟩ := hs2.some_ hl2
  have hmx : l.length + l2.length ≤ 9223372036854775807 := by simpa [maxLen] using hm
  have hEl : ∀ x ∈ l ++ l2, (enc x).length = sz := fun x hx => by
    rcases List.mem_append.1 hx with h | h
    · exact hs.enc_len x h
    · exact hs2.enc_len x h
  have fin : ∀ cap', l.length + l2.length ≤ cap' → cap' ≤ maxLen →
      ∃ more, (l ++ l2).flatMap enc ++ more = (l ++ l2).flatMap enc ++ (Builtin.zeroCells v.cells (cap' - (l.length + l2.length))).toList ∧ ((l ++ l2).flatMap enc ++ more).length = cap' * sz := by
    intro cap' h _
    refine ⟨_, rfl, ?_⟩
    rw [List.length_append, flat_len _ hEl]
    have : (Builtin.zeroCells v.cells (cap' - (l.length + l2.length))).toList.length = (cap' - (l.length + l2.length)) * sz := by
      rw [Array.length_toList, size_zeroCells, hc]; simp [hzl]
    rw [this, ← Nat.add_mul, List.length_append]
    congr 1; omega
  have grow : ∀ old, old < l.length + l2.length → ∀ w', w' = w.drew.alloc (.cells ((l ++ l2).flatMap enc ++ (Builtin.zeroCells v.cells (grownCap w (l.length + l2.length) old e - (l.length + l2.length))).toList).toArray e) →
      ∃ cap' ob', cap' = grownCap w (l.length + l2.length) old e ∧ Row e sz enc (some ⟨w.heap.size, 0, none⟩) cap' ob' (l ++ l2) ∧ SH B w0 w' (ob' ++ H) := by
    intro old ho w' hw'
    subst hw'
    have hge := grownCap_ge w (l.length + l2.length) old e
    have hcm := grownCap_le_maxLen w (l.length + l2.length) old e hm
    obtain ⟨more, hmore, hml⟩ := fin _ hge hcm
    refine ⟨_, [(w.heap.size, .cells ((l ++ l2).flatMap enc ++ more) e)], rfl, ⟨fun x hx => ⟨hEl x hx, h1 x hx⟩, .inr ⟨w.heap.size, more, rfl, rfl, by simp; omega, hcm, hml⟩⟩, ?_⟩
    rw [hmore]
    exact (hss.drew).alloc (Blk.cells ((l ++ l2).flatMap enc ++ (Builtin.zeroCells v.cells (grownCap w (l.length + l2.length) old e - (l.length + l2.length))).toList) e)
  by_cases hl0 : l = [] ∧ ao = none
  · obtain ⟨rfl, rfl⟩ := hl0
    obtain rfl := hnil rfl rfl
    have hr := run_append_nil (P := P) w t ty e i v hu.u hi hz ⟨b2, o2, none⟩ l2.length c2 (l2.flatMap enc) (by rw [flat_len _ hs2.enc_len, hsi]) hs2.flat (by
      rcases Nat.eq_zero_or_pos l2.length with h | h
      · exact absurd (List.eq_nil_of_length_eq_zero h) hl2
      · exact h) (by simp at hmx; omega) (by rw [hbi]; simp at hb; omega)
    obtain ⟨cap', ob', e1, hrow, hsh⟩ := grow 0 (by simpa using hg) _ rfl
    refine ⟨_, cap', ob', _, hrow, ?_, hsh⟩
    simp only [List.length_nil, Nat.zero_add, List.nil_append] at e1 hr ⊢
    rw [hr, e1, arr_eq1]
  · have hao : ∃ b o, ao = some ⟨b, o, none⟩ ∨ (l = [] ∧ ∃ a, ao = some a) := by
      by_cases h : l = []
      · cases ao with
        | none => exact absurd ⟨h, rfl⟩ hl0
        | some a => exact ⟨0, 0, .inr ⟨h, a, rfl⟩⟩
      · obtain ⟨b, o, rfl⟩ := hs.some_ h; exact ⟨b, o, .inl rfl⟩
    have hfl : ∃ a, ao = some a ∧ ∀ j u, (l.flatMap enc)[j]? = some u → w.cell? (a.add j) = some u := by
      obtain ⟨b, o, h | ⟨h, a, ha⟩⟩ := hao
      · subst h; exact ⟨_, rfl, hs.flat⟩
      · subst h; exact ⟨a, ha, fun j u h => by simp at h⟩
    obtain ⟨a, rfl, hfl⟩ := hfl
    have hr := run_append_grow (P := P) w t ty e i v hu.u hi hz a l.length cap (l.flatMap enc) (by rw [flat_len _ hs.enc_len, hsi]) hfl ⟨b2, o2, none⟩ l2.length c2 (l2.flatMap enc) (by rw [flat_len _ hs2.enc_len, hsi]) hs2.flat hg (by omega)
      (growslice_fits (by omega) (by rw [hbi]; exact hb))
    obtain ⟨cap', ob', e1, hrow, hsh⟩ := grow cap (by omega) _ rfl
    refine ⟨_, cap', ob', _, hrow, ?_, hsh⟩
    rw [hr, e1, arr_eq2, List.length_append, List.flatMap_append]

/-- 'append(s, src...)': s a row of the call's own, the source read anywhere. -/
theorem TL_append {α : Type} {t e T : TypeId} {x y : Operand} {sz : Nat} {ag : Bool} {z : List Value} {by_ : Nat} {enc : α → List Value} {ao ao2 : Option Addr} {cap n2 c2 : Nat} {ob G : Hp} {l l2 : List α} {n : Nat} (hd : Nat.blt d N = true)
    [hu : SlcP P t e] [he : TyP P e sz ag z] (hzl : z.length = sz) [hby : BytP P e by_] (hT : T = e)
    (hx : ev L x = some (.slice ao n cap)) (hn : n = l.length) (hy : ev L y = some (.slice ao2 n2 c2)) (hn2 : n2 = l2.length) (hrow : Row T sz enc ao cap ob l) (hp : List.Perm (ob ++ G) H)
    (hs : ∀ w, SH B w0 w H → Sl w sz enc ao2 l2) (h1 : ∀ u ∈ l2, oneCells (enc u) = true) (hb : (l.length + l2.length) * by_ ≤ 140737488355328) (hm : l.length + l2.length ≤ maxLen)
    (k : ∀ ao' cap' ob', Row T sz enc ao' cap' ob' (l ++ l2) → TL r P Q N D B w0 ((d, .slice ao' (l ++ l2).length cap') :: L) (ob' ++ G) ops rest) :
    TL r P Q N D B w0 L H ops (⟨some d, .call { callee := .builtin .append, args := #[x, y], argTypes := #[t, t] }, ty, pos, aft, none⟩ :: rest) := by
  subst hT hn hn2
  refine TL_valw (by simp) hd (fun q : Option Addr × Nat × Hp => .slice q.1 (l ++ l2).length q.2.1) (fun q => q.2.2 ++ G) (fun q => Row T sz enc q.1 q.2.1 q.2.2 (l ++ l2)) (fun a w hf hss => ?_) (fun q hq => k q.1 q.2.1 q.2.2 hq)
  have hss2 : SH B w0 w (ob ++ G) := hss.perm hp
  obtain ⟨i, v, hi, hsi, hz, hc⟩ := he.info
  have hbi : i.bytes = by_ := by rw [← hby.b]; simp [Program.bytesOf, hi]
  have hsl := hs w hss
  have hsl1 : Sl w sz enc ao l := hrow.sl hss2 (fun p hp => List.mem_append_left _ hp)
  have hrun : ∀ v' w', (Builtin.append_ #[t, t] ty #[.slice ao l.length cap, .slice ao2 l2.length c2]).run P w = .ok v' w' →
      (execOp a.eval ⟨some d, .call { callee := .builtin .append, args := #[x, y], argTypes := #[t, t] }, ty, pos, aft, none⟩).run P w = .ok (.value v') w' := by
    intro v' w' h
    simp [execOp, resolve, invoke, Go.builtin, hf.ev hx, hf.ev hy, h]
  by_cases hroom : l.length + l2.length ≤ cap
  · rcases hrow.2 with ⟨rfl, rfl, rfl, rfl⟩ | ⟨g, more, rfl, rfl, hle, hcm, hml⟩
    · -- nil, and nothing to append
      have hl2 : l2 = [] := List.eq_nil_of_length_eq_zero (by simpa using hroom)
      subst hl2
      refine ⟨(none, 0, []), w, Row.nil _ _ _, ?_, hss2⟩
      refine hrun _ _ ?_
      cases ao2 <;> simp [Builtin.append_, run_underlying hu.u, sizeOf, typeInfo, hi, Builtin.lenOf, Builtin.firstCells, loadCells, loadCellsFrom]
    · have hg := (hss2.holds g _ (List.mem_append_left _ List.mem_cons_self)).2
      simp only [Blk.toObj] at hg
      by_cases hl2 : l2 = []
      · subst hl2
        refine ⟨(some ⟨g, 0, none⟩, cap, [(g, .cells (l.flatMap enc ++ more) T)]), w, ⟨by simpa using hrow.1, .inr ⟨g, more, rfl, by simp, by simpa using hle, hcm, by simpa using hml⟩⟩, ?_, hss2⟩
        refine hrun _ _ ?_
        cases ao2 <;> simp [Builtin.append_, run_underlying hu.u, sizeOf, typeInfo, hi, Builtin.lenOf, Builtin.firstCells, loadCells, loadCellsFrom, hle, storeCells]
      · obtain ⟨b2, o2, rfl⟩ := hsl.some_ hl2
        have hn1 : (l.flatMap enc).length = l.length * sz := flat_len _ hsl1.enc_len
        have hn2 : (l2.flatMap enc).length = l2.length * sz := flat_len _ hsl.enc_len
        have hfit : l.length * i.size + (l2.flatMap enc).length ≤ (l.flatMap enc ++ more).toArray.size := by
          rw [hn2, hsi, List.size_toArray, hml, ← Nat.add_mul]
          exact Nat.mul_le_mul_right _ hroom
        have hr := run_append_room (P := P) w t ty T i hu.u hi g l.length cap (l.flatMap enc ++ more).toArray hg ⟨b2, o2, none⟩ l2.length c2 (l2.flatMap enc) (by rw [hn2, hsi]) hsl.flat (flat_oneCells _ h1) hroom hfit
        have hnew : (((l.flatMap enc ++ more).toArray.toList.take (l.length * i.size) ++ l2.flatMap enc ++ (l.flatMap enc ++ more).toArray.toList.drop (l.length * i.size + (l2.flatMap enc).length))) = (l ++ l2).flatMap enc ++ more.drop (l2.flatMap enc).length := by
          rw [hsi, ← hn1]
          show (l.flatMap enc ++ more).take (l.flatMap enc).length ++ l2.flatMap enc ++ (l.flatMap enc ++ more).drop ((l.flatMap enc).length + (l2.flatMap enc).length) = _
          rw [List.take_left, ← List.drop_drop, List.drop_left, List.flatMap_append]
        rw [hnew] at hr
        have hml2 : ((l ++ l2).flatMap enc ++ more.drop (l2.flatMap enc).length).length = cap * sz := by
          rw [← hml]
          simp only [List.length_append, List.flatMap_append, List.length_drop]
          have : (l2.flatMap enc).length ≤ more.length := by
            simp only [List.size_toArray, List.length_append, hsi, hn1] at hfit
            omega
          omega
        refine ⟨(some ⟨g, 0, none⟩, cap, [(g, .cells ((l ++ l2).flatMap enc ++ more.drop (l2.flatMap enc).length) T)]), _, ⟨fun x hx => ?_, .inr ⟨g, _, rfl, rfl, by simpa using hroom, hcm, hml2⟩⟩, hrun _ _ (by rw [hr, List.length_append]), ?_⟩
        · rcases List.mem_append.1 hx with h | h
          · exact hrow.1 x h
          · exact ⟨hsl.enc_len x h, h1 x h⟩
        · refine hss2.upd (b := g) (k := .cells (l.flatMap enc ++ more) T) (k' := .cells ((l ++ l2).flatMap enc ++ more.drop (l2.flatMap enc).length) T) (Upd.head) rfl rfl rfl (by simp) ?_ ?_
          · exact setRow_heap w g _ _ T _ hg
          · intro c hc; exact setRow_other w g c _ hc
  · have hnil : l = [] → ao = none → cap = 0 := by
      rintro rfl rfl
      rcases hrow.2 with ⟨_, h, _⟩ | ⟨_, _, h, _⟩
      · exact h
      · simp at h
    obtain ⟨b, cap', ob', w', h2, h3, h4⟩ := run_append_new (P := P) (t := t) (ty := ty) hzl hsl1 hsl hnil (by omega) hrow.le (fun u hu => by
      rcases List.mem_append.1 hu with h | h
      · exact (hrow.1 u h).2
      · exact h1 u h) hb hm hss2 (c2 := c2)
    refine ⟨(some ⟨b, 0, none⟩, cap', ob'), w', h2, hrun _ _ h3, h4.sub ?_⟩
    exact (List.sublist_append_right ob G).append_left ob'

/-- 'append(s, src...)' that must grow: s read anywhere. -/
theorem TL_append_new {α : Type} {t e : TypeId} {x y : Operand} {sz : Nat} {ag : Bool} {z : List Value} {by_ : Nat} {enc : α → List Value} {ao ao2 : Option Addr} {cap n2 c2 : Nat} {l l2 : List α} {n : Nat} (hd : Nat.blt d N = true)
    [hu : SlcP P t e] [he : TyP P e sz ag z] (hzl : z.length = sz) [hby : BytP P e by_]
    (hx : ev L x = some (.slice ao n cap)) (hn : n = l.length) (hy : ev L y = some (.slice ao2 n2 c2)) (hn2 : n2 = l2.length) (hs : ∀ w, SH B w0 w H → Sl w sz enc ao l) (hs2 : ∀ w, SH B w0 w H → Sl w sz enc ao2 l2)
    (hnil : l = [] → ao = none → cap = 0) (hg : cap < l.length + l2.length) (hle : l.length ≤ cap) (h1 : ∀ u ∈ l ++ l2, oneCells (enc u) = true) (hb : (l.length + l2.length) * by_ ≤ 140737488355328) (hm : l.length + l2.length ≤ maxLen)
    (k : ∀ b cap' ob', Row e sz enc (some ⟨b, 0, none⟩) cap' ob' (l ++ l2) → TL r P Q N D B w0 ((d, .slice (some ⟨b, 0, none⟩) (l ++ l2).length cap') :: L) (ob' ++ H) ops rest) :
    TL r P Q N D B w0 L H ops (⟨some d, .call { callee := .builtin .append, args := #[x, y], argTypes := #[t, t] }, ty, pos, aft, none⟩ :: rest) := by
  subst hn hn2
  refine TL_valw (by simp) hd (fun q : Nat × Nat × Hp => .slice (some ⟨q.1, 0, none⟩) (l ++ l2).length q.2.1) (fun q => q.2.2 ++ H) (fun q => Row e sz enc (some ⟨q.1, 0, none⟩) q.2.1 q.2.2 (l ++ l2)) (fun a w hf hss => ?_) (fun q hq => k q.1 q.2.1 q.2.2 hq)
  obtain ⟨b, cap', ob', w', h2, h3, h4⟩ := run_append_new (P := P) (t := t) (ty := ty) hzl (hs w hss) (hs2 w hss) hnil hg hle h1 hb hm hss (c2 := c2)
  exact ⟨(b, cap', ob'), w', h2, by simp [execOp, resolve, invoke, Go.builtin, hf.ev hx, hf.ev hy, h3], h4⟩
end
end Go.Eng
