/- Walks: the reference's table, closed. -/
import Derived.Test.YtoolblbdmmiahaaDoorL8
namespace Go.Proofs.YtoolblbdmmiahaaDoor
open Go Go.Eng Go.RowKit Go.Proofs
set_option maxHeartbeats 4000000
set_option maxRecDepth 10000
attribute [local irreducible] TL TC TQ

def enc1 (v : Value) : List Value := [v]
/-- The slices of the rows laid so far, and nil ones. -/
def ocells (W : Nat) (bs : List Nat) (m : Nat) : List Value := bs.map (fun b => Value.slice (some ⟨b, 0, none⟩) W W) ++ List.replicate m (.slice none 0 0)
theorem flat1 (l : List Value) : l = l.flatMap enc1 ++ [] := by
  rw [List.append_nil]
  induction l with
  | nil => rfl
  | cons a l ih => rw [List.flatMap_cons, ← ih]; rfl
theorem oc_get {W : Nat} {bs : List Nat} {m i b : Nat} (h : bs[i]? = some b) : (ocells W bs m)[i]? = some (.slice (some ⟨b, 0, none⟩) W W) := by
  unfold ocells
  rw [List.getElem?_append_left (by simpa using (List.getElem?_eq_some_iff.1 h).1), List.getElem?_map, h]; rfl
theorem oc_len (W : Nat) (bs : List Nat) (m : Nat) : (ocells W bs m).length = bs.length + m := by simp [ocells]
theorem oc_put {W : Nat} {bs : List Nat} {m i b : Nat} (h : bs.length = i) {q : Nat} (hq : q = i) : putN q [.slice (some ⟨b, 0, none⟩) W W] (ocells W bs (m + 1)) = some (ocells W (bs ++ [b]) m) := by
  subst hq h
  rw [putN1 _ (by rw [oc_len]; omega)]
  congr 1
  unfold ocells
  rw [List.set_append_right _ _ (by simp), List.length_map, Nat.sub_self, List.replicate_succ, List.set_cons_zero, List.map_append, List.append_assoc]
  rfl
theorem ocSl {B : Nat} {w0 w : World} {H : Hp} {bo W : Nat} {bs : List Nat} {m : Nat} (h : SH B w0 w H) (hm : (bo, Blk.cells (ocells W bs m) 35) ∈ H) : Sl w 1 enc1 (some ⟨bo, 0, none⟩) (ocells W bs m) :=
  Sl.of_blk h hm (fun _ _ => rfl) ⟨[], flat1 _⟩
theorem rds_span {S : Sv} (hS : OkSv S) : ∀ x ∈ rds S, -20000000 ≤ x.2.2.1 ∧ x.2.2.2 ≤ 20000000 ∧ x.2.2.1 ≤ x.2.2.2 := by
  obtain ⟨_, _, _, _, h5, h6, _⟩ := hS
  intro x hx
  rcases List.mem_append.1 hx with h | h
  · obtain ⟨y, hy, rfl⟩ := List.mem_map.1 h
    have := (h5 y hy).2
    simp only [Ord] at this
    dsimp only; omega
  · obtain ⟨y, hy, rfl⟩ := List.mem_map.1 h
    have := (h6 y hy).2
    simp only [Ord] at this
    dsimp only; omega
end Go.Proofs.YtoolblbdmmiahaaDoor
