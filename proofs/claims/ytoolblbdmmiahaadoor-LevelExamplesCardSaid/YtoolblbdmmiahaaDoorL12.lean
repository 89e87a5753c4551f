/- Walks: what the shots say of a way; Loop, of the program and of the reference. -/
import Derived.Test.YtoolblbdmmiahaaDoorL11
namespace Go.Proofs.YtoolblbdmmiahaaDoor
open Go Go.Eng Go.RowKit Go.Proofs
set_option maxHeartbeats 4000000
set_option maxRecDepth 10000
attribute [local irreducible] TL TC TQ

def saysK (S : Sv) (a b : Int) (k : Nat) : Sp × Nat := (S.shots.take k).foldl (sayStep a b) ((-20000000, 20000000), 0)
theorem saysK_succ {S : Sv} {a b : Int} {k : Nat} {x : Sh} (h : S.shots[k]? = some x) : saysK S a b (k + 1) = sayStep a b (saysK S a b k) x := by
  unfold saysK
  rw [List.take_add_one, h, List.foldl_append]; rfl
theorem saysK_all (S : Sv) (a b : Int) : saysK S a b S.shots.length = saysR S a b := by unfold saysK saysR; rw [List.take_length]
theorem saysK_B {S : Sv} (hS : ∀ x ∈ S.shots, OkSh S.pts x) (a b : Int) : ∀ k, k ≤ S.shots.length → ((-20000000 ≤ (saysK S a b k).1.1 ∧ (saysK S a b k).1.1 ≤ 20000000) ∧ (-20000000 ≤ (saysK S a b k).1.2 ∧ (saysK S a b k).1.2 ≤ 20000000)) ∧ (saysK S a b k).2 ≤ k := by
  intro k
  induction k with
  | zero => intro _; simp [saysK]
  | succ k ih =>
    intro hk
    obtain ⟨x, hx⟩ : ∃ x, S.shots[k]? = some x := ⟨_, List.getElem?_eq_getElem (by omega)⟩
    have ho := (hS x (List.mem_of_getElem? hx)).2
    simp only [Ord] at ho
    have := ih (by omega)
    rw [saysK_succ hx]
    unfold sayStep
    split
    · dsimp only; omega
    · split
      · dsimp only; omega
      · omega
theorem says_B {S : Sv} (hS : ∀ x ∈ S.shots, OkSh S.pts x) (a b : Int) : ((-20000000 ≤ (saysR S a b).1.1 ∧ (saysR S a b).1.1 ≤ 20000000) ∧ (-20000000 ≤ (saysR S a b).1.2 ∧ (saysR S a b).1.2 ≤ 20000000)) ∧ (saysR S a b).2 ≤ S.shots.length := by
  rw [← saysK_all]; exact saysK_B hS a b _ (Nat.le_refl _)
theorem atR_lt {l : List Int} {i : Nat} (h : i < l.length) : l[i]? = some (atR l i) := by
  unfold atR
  rw [Nat.mod_eq_of_lt h, List.getD_eq_getElem?_getD, List.getElem?_eq_getElem h]; rfl
theorem atR_mod {l : List Int} (h : 0 < l.length) (i : Nat) : l[i % l.length]? = some (atR l i) := by
  unfold atR
  rw [List.getD_eq_getElem?_getD, List.getElem?_eq_getElem (Nat.mod_lt _ h)]; rfl
theorem loopR_inv {S : Sv} (h : ¬ OkSv S) (l : List Int) : loopR S l = ((0, 0), 10) := if_pos h
theorem loopR_bad {S : Sv} (h : OkSv S) {l : List Int} (h2 : badPts S l) : loopR S l = ((0, 0), 2) := by unfold loopR; rw [if_neg (not_not_intro h), if_pos h2]
theorem loopR_none {S : Sv} (h : OkSv S) {l : List Int} (h2 : ¬ badPts S l) (h3 : ∃ i, i < l.length ∧ (legR S l i).2 = 0) : loopR S l = ((0, 0), 6) := by unfold loopR; rw [if_neg (not_not_intro h), if_neg h2, if_pos h3]
theorem loopR_apart {S : Sv} (h : OkSv S) {l : List Int} (h2 : ¬ badPts S l) (h3 : ¬ ∃ i, i < l.length ∧ (legR S l i).2 = 0) (h4 : ∃ i, i < l.length ∧ (legR S l i).1.2 < (legR S l i).1.1) : loopR S l = ((0, 0), 11) := by unfold loopR; rw [if_neg (not_not_intro h), if_neg h2, if_neg h3, if_pos h4]
theorem loopR_ok {S : Sv} (h : OkSv S) {l : List Int} (h2 : ¬ badPts S l) (h3 : ¬ ∃ i, i < l.length ∧ (legR S l i).2 = 0) (h4 : ¬ ∃ i, i < l.length ∧ (legR S l i).1.2 < (legR S l i).1.1) : loopR S l = (sumL S l l.length, 0) := by unfold loopR; rw [if_neg (not_not_intro h), if_neg h2, if_neg h3, if_neg h4]
theorem sum_B {S : Sv} (hS : OkSv S) (l : List Int) : ∀ m : Nat, (-(20000000 * (m : Int)) ≤ (sumL S l m).1 ∧ (sumL S l m).1 ≤ 20000000 * (m : Int)) ∧ (-(20000000 * (m : Int)) ≤ (sumL S l m).2 ∧ (sumL S l m).2 ≤ 20000000 * (m : Int)) := by
  intro m
  induction m with
  | zero => simp [sumL]
  | succ m ih =>
    have := says_B hS.2.2.2.2.1 (atR l m) (atR l (m + 1))
    unfold legR at *
    simp only [sumL, legR]
    omega
end Go.Proofs.YtoolblbdmmiahaaDoor
