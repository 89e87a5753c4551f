/- Plain law: loops. -/
import Derived.Test.YtoolblbdmmiahaaDoorLO
namespace Go.Proofs.YtoolblbdmmiahaaDoor
open Go Go.Eng Go.RowKit Go.Proofs

/-- One shot, as far as it says something of the way from a to b. -/
def sayStep (a b : Int) (q : Sp × Nat) (x : Sh) : Sp × Nat :=
  if x.fr = a ∧ x.to = b then ((max q.1.1 x.rise.1, min q.1.2 x.rise.2), q.2 + 1)
  else if x.fr = b ∧ x.to = a then ((max q.1.1 (-x.rise.2), min q.1.2 (-x.rise.1)), q.2 + 1) else q
/-- What the shots say of the way from a to b, and how many do. -/
def saysR (S : Sv) (a b : Int) : Sp × Nat := S.shots.foldl (sayStep a b) ((-20000000, 20000000), 0)
/-- Point i of a list that goes round. -/
def atR (l : List Int) (i : Nat) : Int := l.getD (i % l.length) 0
def legR (S : Sv) (l : List Int) (i : Nat) : Sp × Nat := saysR S (atR l i) (atR l (i + 1))
/-- The sum of the first m legs. -/
def sumL (S : Sv) (l : List Int) : Nat → Sp
  | 0 => (0, 0)
  | m + 1 => ((sumL S l m).1 + (legR S l m).1.1, (sumL S l m).2 + (legR S l m).1.2)
def badPts (S : Sv) (l : List Int) : Prop := ¬ In l.length 2 20 ∨ ¬ (∀ i, i < l.length → In (atR l i) 0 (S.pts - 1) ∧ atR l i ≠ atR l (i + 1))
instance (S : Sv) (l : List Int) : Decidable (badPts S l) := inferInstanceAs (Decidable (_ ∨ _))
def loopR (S : Sv) (l : List Int) : Sp × Int :=
  if ¬ OkSv S then ((0, 0), 10) else if badPts S l then ((0, 0), 2)
  else if ∃ i, i < l.length ∧ (legR S l i).2 = 0 then ((0, 0), 6)
  else if ∃ i, i < l.length ∧ (legR S l i).1.2 < (legR S l i).1.1 then ((0, 0), 11)
  else (sumL S l l.length, 0)
theorem says_in {S : Sv} {a b : Int} {h : Nat → Int} (hS : ∀ x ∈ S.shots, OkSh S.pts x) (hab : a ≠ b) (hf : ∀ x ∈ S.shots, (x.fr = a ∧ x.to = b ∨ x.fr = b ∧ x.to = a) → x.rise.1 ≤ h x.to.toNat - h x.fr.toNat ∧ h x.to.toNat - h x.fr.toNat ≤ x.rise.2)
    (hb : -20000000 ≤ h b.toNat - h a.toNat ∧ h b.toNat - h a.toNat ≤ 20000000) : (saysR S a b).1.1 ≤ h b.toNat - h a.toNat ∧ h b.toNat - h a.toNat ≤ (saysR S a b).1.2 := by
  unfold saysR
  have key : ∀ (l : List Sh) (q : Sp × Nat), (∀ x ∈ l, (x.fr = a ∧ x.to = b ∨ x.fr = b ∧ x.to = a) → x.rise.1 ≤ h x.to.toNat - h x.fr.toNat ∧ h x.to.toNat - h x.fr.toNat ≤ x.rise.2) → (q.1.1 ≤ h b.toNat - h a.toNat ∧ h b.toNat - h a.toNat ≤ q.1.2) → ((l.foldl (sayStep a b) q).1.1 ≤ h b.toNat - h a.toNat ∧ h b.toNat - h a.toNat ≤ (l.foldl (sayStep a b) q).1.2) := by
    intro l
    induction l with
    | nil => intro q _ hq; exact hq
    | cons x l ih =>
      intro q hl hq
      rw [List.foldl_cons]
      refine ih _ (fun y hy => hl y (List.mem_cons_of_mem _ hy)) ?_
      unfold sayStep
      split
      · rename_i h1
        have := hl x List.mem_cons_self (.inl h1)
        rw [h1.1, h1.2] at this
        dsimp only; omega
      · split
        · rename_i h1
          have := hl x List.mem_cons_self (.inr h1)
          rw [h1.1, h1.2] at this
          dsimp only; omega
        · exact hq
  exact key _ _ hf hb
end Go.Proofs.YtoolblbdmmiahaaDoor
