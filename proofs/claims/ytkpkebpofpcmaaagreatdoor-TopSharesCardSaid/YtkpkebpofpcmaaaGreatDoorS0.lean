/- The plain law of stable sorting: what the sort of the library computes, as functions of lists; it keeps the length, takes no new thing in, and looks at nothing but the order. -/
import Derived.Test.YtkpkebpofpcmaaaGreatDoorEngA
namespace Go.Proofs.YtkpkebpofpcmaaaGreatDoor

def sw {α : Type} (l : List α) (i j : Nat) : List α := match l[i]?, l[j]? with
  | some x, some y => (l.set i y).set j x
  | _, _ => l
def ltAt {α : Type} (lt : α → α → Bool) (l : List α) (i j : Nat) : Bool := match l[i]?, l[j]? with
  | some x, some y => lt x y
  | _, _ => false
def insJ {α : Type} (lt : α → α → Bool) (a : Nat) : List α → Nat → List α
  | l, 0 => l
  | l, j + 1 => if a < j + 1 ∧ ltAt lt l (j + 1) j = true then insJ lt a (sw l (j + 1) j) j else l
def insI {α : Type} (lt : α → α → Bool) (a : Nat) : Nat → Nat → List α → List α
  | _, 0, l => l
  | i, n + 1, l => insI lt a (i + 1) n (insJ lt a l i)
def insS {α : Type} (lt : α → α → Bool) (a b : Nat) (l : List α) : List α := insI lt a (a + 1) (b - (a + 1)) l
def bsr (p : Nat → Bool) : Nat → Nat → Nat → Nat
  | 0, i, _ => i
  | f + 1, i, j => if i < j then (if p ((i + j) / 2) then bsr p f ((i + j) / 2 + 1) j else bsr p f i ((i + j) / 2)) else i
def shU {α : Type} : Nat → Nat → List α → List α
  | _, 0, l => l
  | k, n + 1, l => shU (k + 1) n (sw l k (k + 1))
def shD {α : Type} : Nat → Nat → List α → List α
  | _, 0, l => l
  | k, n + 1, l => shD (k - 1) n (sw l k (k - 1))
def swR {α : Type} (a b : Nat) : Nat → Nat → List α → List α
  | _, 0, l => l
  | i, n + 1, l => swR a b (i + 1) n (sw l (a + i) (b + i))
def rot {α : Type} (m : Nat) : Nat → Nat → Nat → List α → List α
  | 0, _, _, l => l
  | f + 1, i, j, l => if i = j then swR (m - i) m 0 i l else if j < i then rot m f (i - j) j (swR (m - i) m 0 j l) else rot m f i (j - i) (swR (m - i) (m + j - i) 0 i l)
/-- Where a merge cuts: the start. -/
def smS {α : Type} (lt : α → α → Bool) (l : List α) (a m b : Nat) : Nat :=
  bsr (fun c => !ltAt lt l ((a + b) / 2 + m - 1 - c) c) b (if (a + b) / 2 < m then (a + b) / 2 + m - b else a) (if (a + b) / 2 < m then (a + b) / 2 else m)
def symM {α : Type} (lt : α → α → Bool) : Nat → Nat → Nat → Nat → List α → List α
  | 0, _, _, _, l => l
  | f + 1, a, m, b, l =>
    if m - a = 1 then shU a (bsr (fun h => ltAt lt l h a) b m b - 1 - a) l
    else if b - m = 1 then shD m (m - bsr (fun h => !ltAt lt l m h) b a m) l
    else
      let s := smS lt l a m b
      let e := (a + b) / 2 + m - s
      let l1 := if s < m ∧ m < e then rot m (e - s) (m - s) (e - m) l else l
      let l2 := if a < s ∧ s < (a + b) / 2 then symM lt f a s ((a + b) / 2) l1 else l1
      if (a + b) / 2 < e ∧ e < b then symM lt f ((a + b) / 2) e b l2 else l2
def insB {α : Type} (lt : α → α → Bool) (n : Nat) : Nat → Nat → List α → List α
  | 0, a, l => insS lt a n l
  | f + 1, a, l => if a + 20 ≤ n then insB lt n f (a + 20) (insS lt a (a + 20) l) else insS lt a n l
def mgP {α : Type} (lt : α → α → Bool) (z n : Nat) : Nat → Nat → List α → List α
  | 0, _, l => l
  | f + 1, a, l => if a + 2 * z ≤ n then mgP lt z n f (a + 2 * z) (symM lt n a (a + z) (a + 2 * z) l) else if a + z < n then symM lt n a (a + z) n l else l
def stM {α : Type} (lt : α → α → Bool) (n : Nat) : Nat → Nat → List α → List α
  | 0, _, l => l
  | f + 1, z, l => if z < n then stM lt n f (z * 2) (mgP lt z n (n + 1) 0 l) else l
def stableM {α : Type} (lt : α → α → Bool) (l : List α) : List α := stM lt l.length l.length 20 (insB lt l.length l.length 0 l)

structure Keeps {α : Type} (l l' : List α) : Prop where
  len : l'.length = l.length
  mem : ∀ x ∈ l', x ∈ l
theorem Keeps.refl {α : Type} (l : List α) : Keeps l l := ⟨rfl, fun _ h => h⟩
theorem Keeps.trans {α : Type} {a b c : List α} (h : Keeps a b) (h' : Keeps b c) : Keeps a c := ⟨h'.len.trans h.len, fun x hx => h.mem x (h'.mem x hx)⟩
theorem sw_keeps {α : Type} (l : List α) (i j : Nat) : Keeps l (sw l i j) := by
  unfold sw
  split
  · rename_i x y hx hy
    refine ⟨by simp, fun z hz => ?_⟩
    rcases List.mem_or_eq_of_mem_set hz with hz | rfl
    · rcases List.mem_or_eq_of_mem_set hz with hz | rfl
      · exact hz
      · exact List.mem_of_getElem? hy
    · exact List.mem_of_getElem? hx
  · exact Keeps.refl l
theorem insJ_keeps {α : Type} (lt : α → α → Bool) (a : Nat) : ∀ (j : Nat) (l : List α), Keeps l (insJ lt a l j)
  | 0, l => Keeps.refl l
  | j + 1, l => by
    unfold insJ
    split
    · exact (sw_keeps l _ _).trans (insJ_keeps lt a j _)
    · exact Keeps.refl l
theorem insI_keeps {α : Type} (lt : α → α → Bool) (a : Nat) : ∀ (n i : Nat) (l : List α), Keeps l (insI lt a i n l)
  | 0, _, l => Keeps.refl l
  | n + 1, i, l => (insJ_keeps lt a i l).trans (insI_keeps lt a n (i + 1) _)
theorem insS_keeps {α : Type} (lt : α → α → Bool) (a b : Nat) (l : List α) : Keeps l (insS lt a b l) := insI_keeps lt a _ _ l
theorem shU_keeps {α : Type} : ∀ (n k : Nat) (l : List α), Keeps l (shU k n l)
  | 0, _, l => Keeps.refl l
  | n + 1, k, l => (sw_keeps l _ _).trans (shU_keeps n (k + 1) _)
theorem shD_keeps {α : Type} : ∀ (n k : Nat) (l : List α), Keeps l (shD k n l)
  | 0, _, l => Keeps.refl l
  | n + 1, k, l => (sw_keeps l _ _).trans (shD_keeps n (k - 1) _)
theorem swR_keeps {α : Type} (a b : Nat) : ∀ (n i : Nat) (l : List α), Keeps l (swR a b i n l)
  | 0, _, l => Keeps.refl l
  | n + 1, i, l => (sw_keeps l _ _).trans (swR_keeps a b n (i + 1) _)
theorem rot_keeps {α : Type} (m : Nat) : ∀ (f i j : Nat) (l : List α), Keeps l (rot m f i j l)
  | 0, _, _, l => Keeps.refl l
  | f + 1, i, j, l => by
    unfold rot
    split
    · exact swR_keeps _ _ _ _ _
    · split
      · exact (swR_keeps _ _ _ _ _).trans (rot_keeps m f _ _ _)
      · exact (swR_keeps _ _ _ _ _).trans (rot_keeps m f _ _ _)
theorem symM_keeps {α : Type} (lt : α → α → Bool) : ∀ (f a m b : Nat) (l : List α), Keeps l (symM lt f a m b l)
  | 0, _, _, _, l => Keeps.refl l
  | f + 1, a, m, b, l => by
    unfold symM
    split
    · exact shU_keeps _ _ _
    split
    · exact shD_keeps _ _ _
    dsimp only
    have k1 : Keeps l (if smS lt l a m b < m ∧ m < (a + b) / 2 + m - smS lt l a m b then rot m ((a + b) / 2 + m - smS lt l a m b - smS lt l a m b) (m - smS lt l a m b) ((a + b) / 2 + m - smS lt l a m b - m) l else l) := by
      split
      · exact rot_keeps _ _ _ _ _
      · exact Keeps.refl l
    revert k1
    generalize (if smS lt l a m b < m ∧ m < (a + b) / 2 + m - smS lt l a m b then rot m ((a + b) / 2 + m - smS lt l a m b - smS lt l a m b) (m - smS lt l a m b) ((a + b) / 2 + m - smS lt l a m b - m) l else l) = l1
    intro k1
    have k2 : Keeps l (if a < smS lt l a m b ∧ smS lt l a m b < (a + b) / 2 then symM lt f a (smS lt l a m b) ((a + b) / 2) l1 else l1) := by
      split
      · exact k1.trans (symM_keeps lt f _ _ _ _)
      · exact k1
    revert k2
    generalize (if a < smS lt l a m b ∧ smS lt l a m b < (a + b) / 2 then symM lt f a (smS lt l a m b) ((a + b) / 2) l1 else l1) = l2
    intro k2
    split
    · exact k2.trans (symM_keeps lt f _ _ _ _)
    · exact k2
theorem insB_keeps {α : Type} (lt : α → α → Bool) (n : Nat) : ∀ (f a : Nat) (l : List α), Keeps l (insB lt n f a l)
  | 0, a, l => insS_keeps lt a n l
  | f + 1, a, l => by
    unfold insB
    split
    · exact (insS_keeps lt _ _ l).trans (insB_keeps lt n f _ _)
    · exact insS_keeps lt a n l
theorem mgP_keeps {α : Type} (lt : α → α → Bool) (z n : Nat) : ∀ (f a : Nat) (l : List α), Keeps l (mgP lt z n f a l)
  | 0, _, l => Keeps.refl l
  | f + 1, a, l => by
    unfold mgP
    split
    · exact (symM_keeps lt _ _ _ _ l).trans (mgP_keeps lt z n f _ _)
    split
    · exact symM_keeps lt _ _ _ _ l
    · exact Keeps.refl l
theorem stM_keeps {α : Type} (lt : α → α → Bool) (n : Nat) : ∀ (f z : Nat) (l : List α), Keeps l (stM lt n f z l)
  | 0, _, l => Keeps.refl l
  | f + 1, z, l => by
    unfold stM
    split
    · exact (mgP_keeps lt z n _ _ l).trans (stM_keeps lt n f _ _)
    · exact Keeps.refl l
theorem stableM_keeps {α : Type} (lt : α → α → Bool) (l : List α) : Keeps l (stableM lt l) := (insB_keeps lt _ _ _ l).trans (stM_keeps lt _ _ _ _)

theorem sw_map {α β : Type} {g : α → β} (l : List α) (i j : Nat) : (sw l i j).map g = sw (l.map g) i j := by
  unfold sw
  rw [List.getElem?_map, List.getElem?_map]
  cases l[i]? <;> cases l[j]? <;> simp [List.map_set]
theorem ltAt_map {α β : Type} {lt : α → α → Bool} {lt' : β → β → Bool} {g : α → β} (hg : ∀ x y, lt' (g x) (g y) = lt x y) (l : List α) (i j : Nat) : ltAt lt' (l.map g) i j = ltAt lt l i j := by
  unfold ltAt
  rw [List.getElem?_map, List.getElem?_map]
  cases l[i]? <;> cases l[j]? <;> simp [hg]
theorem insJ_map {α β : Type} {lt : α → α → Bool} {lt' : β → β → Bool} {g : α → β} (hg : ∀ x y, lt' (g x) (g y) = lt x y) (a : Nat) : ∀ (j : Nat) (l : List α), (insJ lt a l j).map g = insJ lt' a (l.map g) j
  | 0, l => rfl
  | j + 1, l => by
    unfold insJ
    rw [ltAt_map hg]
    split
    · rw [insJ_map hg a j, sw_map]
    · rfl
theorem insI_map {α β : Type} {lt : α → α → Bool} {lt' : β → β → Bool} {g : α → β} (hg : ∀ x y, lt' (g x) (g y) = lt x y) (a : Nat) : ∀ (n i : Nat) (l : List α), (insI lt a i n l).map g = insI lt' a i n (l.map g)
  | 0, _, l => rfl
  | n + 1, i, l => by rw [insI, insI, insI_map hg a n, insJ_map hg]
theorem insS_map {α β : Type} {lt : α → α → Bool} {lt' : β → β → Bool} {g : α → β} (hg : ∀ x y, lt' (g x) (g y) = lt x y) (a b : Nat) (l : List α) : (insS lt a b l).map g = insS lt' a b (l.map g) := insI_map hg a _ _ l
theorem shU_map {α β : Type} {g : α → β} : ∀ (n k : Nat) (l : List α), (shU k n l).map g = shU k n (l.map g)
  | 0, _, l => rfl
  | n + 1, k, l => by rw [shU, shU, shU_map n, sw_map]
theorem shD_map {α β : Type} {g : α → β} : ∀ (n k : Nat) (l : List α), (shD k n l).map g = shD k n (l.map g)
  | 0, _, l => rfl
  | n + 1, k, l => by rw [shD, shD, shD_map n, sw_map]
theorem swR_map {α β : Type} {g : α → β} (a b : Nat) : ∀ (n i : Nat) (l : List α), (swR a b i n l).map g = swR a b i n (l.map g)
  | 0, _, l => rfl
  | n + 1, i, l => by rw [swR, swR, swR_map a b n, sw_map]
theorem rot_map {α β : Type} {g : α → β} (m : Nat) : ∀ (f i j : Nat) (l : List α), (rot m f i j l).map g = rot m f i j (l.map g)
  | 0, _, _, l => rfl
  | f + 1, i, j, l => by
    unfold rot
    split
    · exact swR_map _ _ _ _ _
    · split
      · rw [rot_map m f, swR_map]
      · rw [rot_map m f, swR_map]
theorem smS_map {α β : Type} {lt : α → α → Bool} {lt' : β → β → Bool} {g : α → β} (hg : ∀ x y, lt' (g x) (g y) = lt x y) (l : List α) (a m b : Nat) : smS lt' (l.map g) a m b = smS lt l a m b := by
  unfold smS
  simp only [ltAt_map hg]
theorem symM_map {α β : Type} {lt : α → α → Bool} {lt' : β → β → Bool} {g : α → β} (hg : ∀ x y, lt' (g x) (g y) = lt x y) : ∀ (f a m b : Nat) (l : List α), (symM lt f a m b l).map g = symM lt' f a m b (l.map g)
  | 0, _, _, _, l => rfl
  | f + 1, a, m, b, l => by
    unfold symM
    simp only [ltAt_map hg, smS_map hg]
    split
    · exact shU_map _ _ _
    split
    · exact shD_map _ _ _
    rw [apply_ite (List.map g), symM_map hg f, apply_ite (List.map g), symM_map hg f, apply_ite (List.map g), rot_map]
theorem insB_map {α β : Type} {lt : α → α → Bool} {lt' : β → β → Bool} {g : α → β} (hg : ∀ x y, lt' (g x) (g y) = lt x y) (n : Nat) : ∀ (f a : Nat) (l : List α), (insB lt n f a l).map g = insB lt' n f a (l.map g)
  | 0, a, l => insS_map hg a n l
  | f + 1, a, l => by
    unfold insB
    split
    · rw [insB_map hg n f, insS_map hg]
    · exact insS_map hg a n l
theorem mgP_map {α β : Type} {lt : α → α → Bool} {lt' : β → β → Bool} {g : α → β} (hg : ∀ x y, lt' (g x) (g y) = lt x y) (z n : Nat) : ∀ (f a : Nat) (l : List α), (mgP lt z n f a l).map g = mgP lt' z n f a (l.map g)
  | 0, _, l => rfl
  | f + 1, a, l => by
    unfold mgP
    split
    · rw [mgP_map hg z n f, symM_map hg]
    split
    · exact symM_map hg _ _ _ _ l
    · rfl
theorem stM_map {α β : Type} {lt : α → α → Bool} {lt' : β → β → Bool} {g : α → β} (hg : ∀ x y, lt' (g x) (g y) = lt x y) (n : Nat) : ∀ (f z : Nat) (l : List α), (stM lt n f z l).map g = stM lt' n f z (l.map g)
  | 0, _, l => rfl
  | f + 1, z, l => by
    unfold stM
    split
    · rw [stM_map hg n f, mgP_map hg]
    · rfl
theorem stableM_map {α β : Type} {lt : α → α → Bool} {lt' : β → β → Bool} {g : α → β} (hg : ∀ x y, lt' (g x) (g y) = lt x y) (l : List α) : (stableM lt l).map g = stableM lt' (l.map g) := by
  unfold stableM
  rw [stM_map hg, insB_map hg, List.length_map]
theorem bsr_ge (p : Nat → Bool) : ∀ (f i j : Nat), i ≤ bsr p f i j
  | 0, i, _ => Nat.le_refl i
  | f + 1, i, j => by
    unfold bsr
    split
    · split
      · exact Nat.le_trans (by omega) (bsr_ge p f _ _)
      · exact bsr_ge p f _ _
    · exact Nat.le_refl i
theorem bsr_le (p : Nat → Bool) : ∀ (f i j : Nat), i ≤ j → bsr p f i j ≤ j
  | 0, _, _, h => h
  | f + 1, i, j, h => by
    unfold bsr
    split
    · split
      · exact bsr_le p f _ _ (by omega)
      · exact Nat.le_trans (bsr_le p f _ _ (by omega)) (by omega)
    · exact h
theorem bsr_done (p : Nat → Bool) (f i j : Nat) (h : j ≤ i) : bsr p f i j = i := by
  cases f with
  | zero => rfl
  | succ f => unfold bsr; rw [if_neg (by omega)]
theorem sw_set {α : Type} {l : List α} {i j : Nat} {x y : α} (hx : l[i]? = some x) (hy : l[j]? = some y) : sw l i j = (l.set i y).set j x := by unfold sw; rw [hx, hy]
theorem ltAt_eq {α : Type} (lt : α → α → Bool) {l : List α} {i j : Nat} {x y : α} (hx : l[i]? = some x) (hy : l[j]? = some y) : ltAt lt l i j = lt x y := by unfold ltAt; rw [hx, hy]
end Go.Proofs.YtkpkebpofpcmaaaGreatDoor
