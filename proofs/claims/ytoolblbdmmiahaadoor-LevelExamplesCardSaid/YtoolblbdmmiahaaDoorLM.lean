/- Plain law: a loop that does not close is a conflict. -/
import Derived.Test.YtoolblbdmmiahaaDoorLL
import Derived.Test.YtoolblbdmmiahaaDoorLN
namespace Go.Proofs.YtoolblbdmmiahaaDoor
open Go Go.Eng Go.RowKit Go.Proofs

/-- Whether a shot lies along the loop. -/
def betw (l : List Int) (x : Sh) : Bool := (List.range l.length).any (fun i => decide ((x.fr = atR l i ∧ x.to = atR l (i + 1)) ∨ (x.fr = atR l (i + 1) ∧ x.to = atR l i)))
def onlyL (S : Sv) (l : List Int) : Sv := ⟨S.pts, S.shots.filter (betw l), [], []⟩
theorem onlyL_ok {S : Sv} (hS : OkSv S) (l : List Int) : OkSv (onlyL S l) := by
  obtain ⟨h1, h2, h3, h4, h5, h6, h7⟩ := hS
  exact ⟨h1, Nat.le_trans (List.length_filter_le _ _) h2, by simp [onlyL], by simp [onlyL], fun x hx => h5 x (List.mem_filter.1 hx).1, fun x hx => by simp [onlyL] at hx, fun x hx => by simp [onlyL] at hx⟩
theorem F0_onlyL {S : Sv} {l : List Int} {h : Nat → Int} (hf : F0 S h) : F0 (onlyL S l) h := ⟨hf.base, fun x hx => hf.shots x (List.mem_filter.1 hx).1, fun x hx => by simp [onlyL] at hx⟩
theorem atR_wrap {l : List Int} (h : l ≠ []) : atR l l.length = atR l 0 := by
  unfold atR; rw [Nat.mod_self, Nat.zero_mod]
theorem loop_legs {S : Sv} (hS : OkSv S) {l : List Int} (hb : ¬ badPts S l) {h : Nat → Int} (hf : F0 (onlyL S l) h) : ∀ i, i < l.length → (legR S l i).1.1 ≤ h (atR l (i + 1)).toNat - h (atR l i).toNat ∧ h (atR l (i + 1)).toNat - h (atR l i).toNat ≤ (legR S l i).1.2 := by
  intro i hi
  unfold badPts at hb
  rw [not_or] at hb
  have hp := Classical.not_not.1 hb.2
  have hlen := Classical.not_not.1 hb.1
  simp only [In] at hlen
  obtain ⟨p1, p2⟩ := hp i hi
  have p3 : In (atR l (i + 1)) 0 (S.pts - 1) := by
    by_cases he : i + 1 < l.length
    · exact (hp (i + 1) he).1
    · rw [show i + 1 = l.length by omega, atR_wrap (by intro h; rw [h] at hi; simp at hi)]
      exact (hp 0 (by omega)).1
  have b1 : ∀ {j : Int}, In j 0 (S.pts - 1) → -10000000 ≤ h j.toNat - h S.pts.toNat ∧ h j.toNat - h S.pts.toNat ≤ 10000000 := fun {j} hj => by
    simp only [In] at hj
    exact hf.base _ (by show _ < S.pts.toNat; omega)
  have c1 := b1 p1
  have c2 := b1 p3
  refine says_in hS.2.2.2.2.1 p2 (fun x hx hxx => hf.shots x (List.mem_filter.2 ⟨hx, ?_⟩)) (by omega)
  unfold betw
  rw [List.any_eq_true]
  exact ⟨i, List.mem_range.2 hi, by rw [decide_eq_true_iff]; rcases hxx with h | h; exact .inl h; exact .inr h⟩
theorem loop_sum {S : Sv} {l : List Int} {h : Nat → Int} (hl : ∀ i, i < l.length → (legR S l i).1.1 ≤ h (atR l (i + 1)).toNat - h (atR l i).toNat ∧ h (atR l (i + 1)).toNat - h (atR l i).toNat ≤ (legR S l i).1.2) : ∀ m, m ≤ l.length → (sumL S l m).1 ≤ h (atR l m).toNat - h (atR l 0).toNat ∧ h (atR l m).toNat - h (atR l 0).toNat ≤ (sumL S l m).2 := by
  intro m
  induction m with
  | zero => intro _; simp [sumL]
  | succ m ih =>
    intro hm
    have := ih (by omega)
    have := hl m (by omega)
    simp only [sumL]; omega
theorem loop_open {S : Sv} (hS : OkSv S) {l : List Int} (h : (loopR S l).2 = 11 ∨ ((loopR S l).2 = 0 ∧ ¬ ((loopR S l).1.1 ≤ 0 ∧ 0 ≤ (loopR S l).1.2))) : okS (onlyL S l) = false ∧ okS S = false := by
  have key : ∀ g, ¬ F0 (onlyL S l) g := fun g hg => by
    unfold loopR at h
    rw [if_neg (not_not_intro hS)] at h
    by_cases hb : badPts S l
    · rw [if_pos hb] at h; simp at h
    · rw [if_neg hb] at h
      have hlegs := loop_legs hS hb hg
      by_cases hn : ∃ i, i < l.length ∧ (legR S l i).2 = 0
      · rw [if_pos hn] at h; simp at h
      · rw [if_neg hn] at h
        by_cases ha : ∃ i, i < l.length ∧ (legR S l i).1.2 < (legR S l i).1.1
        · obtain ⟨i, hi, hlt⟩ := ha
          have := hlegs i hi; omega
        · rw [if_neg ha] at h
          have hs := loop_sum hlegs l.length (Nat.le_refl _)
          have hne : l ≠ [] := by
            intro he
            unfold badPts at hb
            rw [not_or] at hb
            have := Classical.not_not.1 hb.1
            rw [he] at this; simp [In] at this
          rw [atR_wrap hne] at hs
          rcases h with h | h
          · simp at h
          · exact h.2 ⟨by dsimp only; omega, by dsimp only; omega⟩
  refine ⟨?_, ?_⟩
  · cases hc : okS (onlyL S l) with
    | false => rfl
    | true => obtain ⟨g, hg⟩ := (ok_iff (onlyL_ok hS l)).1 hc; exact absurd hg (key g)
  · cases hc : okS S with
    | false => rfl
    | true => obtain ⟨g, hg⟩ := (ok_iff hS).1 hc; exact absurd (F0_onlyL hg) (key g)
theorem clash_ne {S : Sv} (hS : OkSv S) (h0 : okS S = false) : clashL S ≠ [] := by
  intro he
  obtain ⟨h1, h2, h3, _⟩ := clash_named hS h0
  rw [he] at h3
  have : okS (onlyS S []) = true := (ok_iff (only_ok hS List.Pairwise.nil (fun k hk => by cases hk))).2 ⟨fun _ => 0, F0_only.2 ⟨fun i _ => by omega, fun k hk => by cases hk⟩⟩
  rw [this] at h3; cases h3
end Go.Proofs.YtoolblbdmmiahaaDoor
