/- Walks: the reference's table. -/
import Derived.Test.YtoolblbdmmiahaaDoorL7
namespace Go.Proofs.YtoolblbdmmiahaaDoor
open Go Go.Eng Go.RowKit Go.Proofs
set_option maxHeartbeats 4000000
set_option maxRecDepth 10000
attribute [local irreducible] TL TC TQ

def encB1 (p : Bool) : List Value := [.bool p]
def cntL (m : Nat) (f : Nat → Bool) : List Bool := (List.range m).map f
def encC (m : Nat) (f : Nat → Bool) : List Value := (List.range m).map (fun i => Value.bool (f i))
theorem encC_flat (m : Nat) (f : Nat → Bool) : encC m f = (cntL m f).flatMap encB1 ++ [] := by
  unfold encC cntL
  rw [List.append_nil]
  induction (List.range m) with
  | nil => rfl
  | cons a l ih => simp only [List.map_cons, List.flatMap_cons, encB1]; rw [ih]; rfl
theorem encC_put {m k : Nat} {f g : Nat → Bool} (hk : k < m) (v : Bool) (hg : ∀ i, i < m → g i = if i = k then v else f i) {q : Nat} (hq : q = k) : putN q [.bool v] (encC m f) = some (encC m g) := by
  subst hq
  rw [putN1 _ (by simp [encC]; exact hk)]
  congr 1
  apply List.ext_getElem?
  intro j
  rw [List.getElem?_set]
  by_cases hj : q = j
  · subst hj
    simp [encC, hk, hg q hk]
  · rw [if_neg hj]; simp only [encC, List.getElem?_map]
    by_cases hjn : j < m
    · rw [List.getElem?_range hjn]; simp [hg j hjn, Ne.symm hj]
    · rw [List.getElem?_eq_none (by simpa using hjn)]; rfl
theorem cntL_get {m k : Nat} {f : Nat → Bool} (hk : k < m) : (cntL m f)[k]? = some (f k) := by simp [cntL, hk]
theorem cntL_len (m : Nat) (f : Nat → Bool) : (cntL m f).length = m := by simp [cntL]
/-- A row of the table, as a slice. -/
def encSl (W : Nat) (b : Nat) : List Value := [.slice (some ⟨b, 0, none⟩) W W]
def rowL (T : Tb) (i W : Nat) : List Int := (List.range W).map (T i)
theorem rowL_get {T : Tb} {i W k : Nat} (hk : k < W) : (rowL T i W)[k]? = some (T i k) := by simp [rowL, hk]
theorem rowL_len (T : Tb) (i W : Nat) : (rowL T i W).length = W := by simp [rowL]
theorem rowSl {B : Nat} {w0 w : World} {H : Hp} {b W i : Nat} {T : Tb} (h : SH B w0 w H) (hm : (b, Blk.cells (encRw W T i) 3) ∈ H) : Sl w 1 encI (some ⟨b, 0, none⟩) (rowL T i W) :=
  Sl.of_blk h hm (fun _ _ => rfl) ⟨[], by
    unfold encRw rowL
    rw [List.append_nil]
    induction (List.range W) with
    | nil => rfl
    | cons a l ih => simp only [List.map_cons, List.flatMap_cons, encI]; rw [ih]; rfl⟩
theorem rowsH_upd0 {ty : TypeId} {m : Nat} {T : Tbl} {k : Nat} {v : Int} {bs : List Nat} {i b : Nat} (h : bs[i]? = some b) : Upd (rowsH ty m T bs 0) b (.cells (encRw m T i) ty) (.cells (encRw m (updT T i k v) i) ty) (rowsH ty m (updT T i k v) bs 0) := by
  have := rowsH_upd (ty := ty) (m := m) (T := T) (k := k) (v := v) bs 0 i b h
  rwa [Nat.zero_add] at this
theorem rowsH_mem0 {ty : TypeId} {m : Nat} {T : Tbl} {bs : List Nat} {i b : Nat} (h : bs[i]? = some b) : (b, Blk.cells (encRw m T i) ty) ∈ rowsH ty m T bs 0 := by
  have := rowsH_mem (ty := ty) (m := m) (T := T) bs 0 i b h
  rwa [Nat.zero_add] at this
theorem rowsH_congr {ty : TypeId} {m : Nat} {T T' : Tbl} : ∀ (bs : List Nat) (j : Nat), (∀ a b, j ≤ a → a < j + bs.length → b < m → T a b = T' a b) → rowsH ty m T bs j = rowsH ty m T' bs j := by
  intro bs
  induction bs with
  | nil => intro j _; rfl
  | cons b bs ih =>
    intro j h
    have e : encRw m T j = encRw m T' j := by
      unfold encRw
      apply List.map_congr_left
      intro k hk
      rw [List.mem_range] at hk
      rw [h j k (Nat.le_refl _) (by simp) hk]
    rw [rowsH, rowsH, e, ih (j + 1) (fun a b h1 h2 h3 => h a b (by omega) (by simp only [List.length_cons]; omega) h3)]
/-- While the rows are laid: the first i rows, and k of the next. -/
def sK (n i k : Nat) : Tb := fun a b => if a < i ∨ a = i ∧ b < k then base n a b else 0
theorem sK_upd (n i k : Nat) : updT (sK n i k) i k (base n i k) = sK n i (k + 1) := by
  funext a b
  unfold updT sK
  by_cases h1 : a = i ∧ b = k
  · rw [if_pos h1, if_pos (by omega), h1.1, h1.2]
  · rw [if_neg h1]
    by_cases h2 : a < i ∨ a = i ∧ b < k
    · rw [if_pos h2, if_pos (by omega)]
    · rw [if_neg h2, if_neg (by omega)]
theorem updT_twice (T : Tb) (i k : Nat) (v u : Int) : updT (updT T i k v) i k u = updT T i k u := by
  funext a b; unfold updT; split <;> rfl
end Go.Proofs.YtoolblbdmmiahaaDoor
