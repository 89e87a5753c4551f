/- The engine: slices that are made; tables. -/
import Derived.Test.YtoolblbdmmiahaaDoorEngD
import Derived.Laws.MakeOwn
namespace Go.Eng
open Go Go.RowKit
set_option linter.unusedVariables false

theorem made_one (v : Value) (n : Nat) : madeCells #[v] n = (List.replicate n v).toArray := by
  apply Array.ext'
  unfold madeCells
  rw [Array.toList_map, Array.toList_range]
  apply List.ext_getElem
  · simp
  · intro i h1 h2
    simp [Nat.mod_one]
section
variable {r : Option Nat} {P : Program} {Q : Exit → Act → World → Prop} {N : Nat} {D : List Deferred} {B : Nat} {w0 : World} {L : Env} {H : Hp} {ops : Array Oper} {rest : List Oper}
variable {d : Nat} {ty : TypeId} {pos : String} {aft : Array Edge}
/-- 'make([]T, n)', elements of one cell. -/
theorem TL_makeSlice1 {t e : TypeId} {x y : Operand} {by_ : Nat} {v0 : Value} {k1 k2 : IntKind} {m1 m2 : Int} (n : Nat) (hd : Nat.blt d N = true) [hu : SlcP P t e] [he : TyP P e 1 false [v0]] [hby : BytP P e by_]
    (hx : ev L x = some (.int k1 m1)) (hy : ev L y = some (.int k2 m2)) (h1 : m1 = (n : Int)) (h2 : m2 = (n : Int)) (hb : by_ * n ≤ 281474976710656) (hm : n ≤ 9223372036854775807)
    (hz : (P.info? e).bind (fun i => i.zero) = some v0) (hc : v0.cells = #[v0])
    (k : ∀ b, B ≤ b → TL r P Q N D B w0 ((d, .slice (some ⟨b, 0, none⟩) n n) :: L) ((b, .cells (List.replicate n v0) e) :: H) ops rest) : TL r P Q N D B w0 L H ops (⟨some d, .makeSlice t x y, ty, pos, aft, none⟩ :: rest) :=
  TL_valw (by simp) hd (fun b : Nat => .slice (some ⟨b, 0, none⟩) n n) (fun b => (b, .cells (List.replicate n v0) e) :: H) (fun b => B ≤ b) (fun a w hf hs => ⟨w.heap.size, w.alloc (Blk.cells (List.replicate n v0) e).toObj, hs.hB, by
    obtain ⟨i, v, hi, hsz, hzz, hcc⟩ := he.info
    have hbi : i.bytes = by_ := by rw [← hby.b]; simp [Program.bytesOf, hi]
    subst h1 h2
    have hz' : i.zero = some v0 := by simpa [hi] using hz
    have hbb : (i.bytes : Int) * (n : Int) ≤ 281474976710656 := by
      rw [hbi]
      have : ((by_ * n : Nat) : Int) ≤ 281474976710656 := by omega
      rwa [Int.natCast_mul] at this
    have h := run_make (P := P) w t e i v0 hu.u hi hz' k1 k2 (n : Int) (n : Int) (by omega) (Int.le_refl _) hbb (by omega)
    rw [hsz, hc, Int.toNat_natCast, Nat.mul_one, made_one] at h
    exact ⟨by simp [execOp, hf.ev hx, hf.ev hy, h, Blk.toObj], hs.alloc (Blk.cells (List.replicate n v0) e)⟩⟩) k
end

/-! Tables. -/
abbrev Tbl := Nat → Nat → Int
def updT (T : Tbl) (i k : Nat) (v : Int) : Tbl := fun a b => if a = i ∧ b = k then v else T a b
/-- The cells of a table of r rows and c columns. -/
def encT (c n : Nat) (T : Tbl) : List Value := (List.range n).map (fun j => .int .i64 (T (j / c) (j % c)))
theorem encT_len (c n : Nat) (T : Tbl) : (encT c n T).length = n := by simp [encT]
theorem divmod {c i k : Nat} (hk : k < c) : (i * c + k) / c = i ∧ (i * c + k) % c = k := by
  have hc : 0 < c := by omega
  refine ⟨?_, ?_⟩
  · rw [Nat.mul_comm, Nat.mul_add_div hc, Nat.div_eq_of_lt hk]; rfl
  · rw [Nat.mul_comm, Nat.mul_add_mod, Nat.mod_eq_of_lt hk]
theorem takeN1 {l : List Value} {o : Nat} {v : Value} (h : l[o]? = some v) : takeN 1 (dropN o l) = some [v] := by
  rw [dropN_eq]
  have : (l.drop o)[0]? = some v := by simpa using h
  cases hd : l.drop o with
  | nil => rw [hd] at this; cases this
  | cons x xs => rw [hd] at this; simp at this; subst this; rfl
theorem encT_get {c n i k : Nat} (T : Tbl) (hk : k < c) (hn : i * c + k < n) {o : Nat} (ho : o = i * c + k) : takeN 1 (dropN o (encT c n T)) = some [.int .i64 (T i k)] := by
  subst ho
  apply takeN1
  simp [encT, hn, divmod hk]
theorem putN1 {l : List Value} {o : Nat} (v : Value) (h : o < l.length) : putN o [v] l = some (l.set o v) := by
  rw [putN_put (by simp; omega)]
  congr 1
  rw [List.set_eq_take_append_cons_drop, if_pos h]
  simp
theorem encT_put {c n i k : Nat} (T : Tbl) (hk : k < c) (hn : i * c + k < n) (v : Int) {o : Nat} (ho : o = i * c + k) : putN o [.int .i64 v] (encT c n T) = some (encT c n (updT T i k v)) := by
  subst ho
  rw [putN1 _ (by rw [encT_len]; exact hn)]
  congr 1
  apply List.ext_getElem?
  intro j
  rw [List.getElem?_set, encT_len]
  by_cases hj : i * c + k = j
  · subst hj
    rw [if_pos rfl, if_pos hn]
    simp [encT, hn, divmod hk, updT]
  · rw [if_neg hj]
    simp only [encT, List.getElem?_map]
    by_cases hjn : j < n
    · rw [List.getElem?_range hjn]
      simp only [Option.map_some, updT]
      rw [if_neg]
      rintro ⟨h1, h2⟩
      have := Nat.div_add_mod j c
      rw [h1, h2, Nat.mul_comm] at this
      exact hj this
    · rw [List.getElem?_eq_none (by simpa using hjn)]; rfl
/-- One row's cells. -/
def encRw (m : Nat) (T : Tbl) (i : Nat) : List Value := (List.range m).map (fun k => .int .i64 (T i k))
/-- Rows, each in a block of its own. -/
def rowsH (ty : TypeId) (m : Nat) (T : Tbl) : List Nat → Nat → Hp
  | [], _ => []
  | b :: bs, i => (b, .cells (encRw m T i) ty) :: rowsH ty m T bs (i + 1)
theorem encRw_ne {m : Nat} {T : Tbl} {i j k : Nat} {v : Int} (h : j ≠ i) : encRw m (updT T i k v) j = encRw m T j := by
  simp [encRw, updT, h]
theorem rowsH_after {ty : TypeId} {m : Nat} {T : Tbl} {i k : Nat} {v : Int} : ∀ (bs : List Nat) (j : Nat), i < j → rowsH ty m (updT T i k v) bs j = rowsH ty m T bs j := by
  intro bs
  induction bs with
  | nil => intro j _; rfl
  | cons b bs ih => intro j hj; rw [rowsH, rowsH, encRw_ne (by omega), ih (j + 1) (by omega)]
theorem rowsH_upd {ty : TypeId} {m : Nat} {T : Tbl} {k : Nat} {v : Int} : ∀ (bs : List Nat) (j i : Nat) (b : Nat), bs[i]? = some b → Upd (rowsH ty m T bs j) b (.cells (encRw m T (j + i)) ty) (.cells (encRw m (updT T (j + i) k v) (j + i)) ty) (rowsH ty m (updT T (j + i) k v) bs j) := by
  intro bs
  induction bs with
  | nil => intro j i b h; simp at h
  | cons a bs ih =>
    intro j i b h
    cases i with
    | zero =>
      simp at h; subst h
      rw [rowsH, rowsH, rowsH_after bs (j + 1) (by omega)]
      exact Upd.head
    | succ i =>
      have e : encRw m (updT T (j + (i + 1)) k v) j = encRw m T j := encRw_ne (by omega)
      rw [rowsH, rowsH, e]
      have := ih (j + 1) i b (by simpa using h)
      rw [show j + 1 + i = j + (i + 1) by omega] at this
      exact Upd.tail this
theorem rowsH_mem {ty : TypeId} {m : Nat} {T : Tbl} : ∀ (bs : List Nat) (j i : Nat) (b : Nat), bs[i]? = some b → (b, Blk.cells (encRw m T (j + i)) ty) ∈ rowsH ty m T bs j := by
  intro bs
  induction bs with
  | nil => intro j i b h; simp at h
  | cons a bs ih =>
    intro j i b h
    cases i with
    | zero => simp at h; subst h; exact List.mem_cons_self
    | succ i =>
      have := ih (j + 1) i b (by simpa using h)
      rw [show j + 1 + i = j + (i + 1) by omega] at this
      exact List.mem_cons_of_mem _ this
theorem rowsH_snoc {ty : TypeId} {m : Nat} {T : Tbl} (b : Nat) : ∀ (bs : List Nat) (j : Nat), rowsH ty m T (bs ++ [b]) j = rowsH ty m T bs j ++ [(b, .cells (encRw m T (j + bs.length)) ty)] := by
  intro bs
  induction bs with
  | nil => intro j; rfl
  | cons a bs ih => intro j; rw [List.cons_append, rowsH, rowsH, ih, List.cons_append, List.length_cons, show j + 1 + bs.length = j + (bs.length + 1) by omega]
theorem encRw_get {m i k : Nat} (T : Tbl) (hk : k < m) : (encRw m T i)[k]? = some (.int .i64 (T i k)) := by simp [encRw, hk]
theorem encRw_put {m i k : Nat} (T : Tbl) (hk : k < m) (v : Int) {o : Nat} (ho : o = k) : putN o [.int .i64 v] (encRw m T i) = some (encRw m (updT T i k v) i) := by
  subst ho
  rw [putN1 _ (by simp [encRw]; exact hk)]
  congr 1
  apply List.ext_getElem?
  intro j
  rw [List.getElem?_set]
  by_cases hj : o = j
  · subst hj; simp [encRw, hk, updT]
  · rw [if_neg hj]; simp only [encRw, List.getElem?_map]
    by_cases hjn : j < m
    · rw [List.getElem?_range hjn]; simp [updT, Ne.symm hj]
    · rw [List.getElem?_eq_none (by simpa using hjn)]; rfl
end Go.Eng
