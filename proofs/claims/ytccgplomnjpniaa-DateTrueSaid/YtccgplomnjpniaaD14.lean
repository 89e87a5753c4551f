/- The plain law: the numbers of goats that the package date tells are the reference's. -/
import Derived.Test.YtccgplomnjpniaaD13
namespace Go.Proofs.Ytccgplomnjpniaa
open Go Go.Eng Go.RowKit Go.Proofs

def fodBad (R : Rd) (g : Int) : List Sn → Int → Bool
  | [], _ => false
  | x :: l, F => decide (F + x.1.1 + x.2 * R.boost.1 / 1000 < g * R.eats.2) || fodBad R g l (F + x.1.1 + x.2 * R.boost.1 / 1000 - g * R.eats.2)
def dungBad (R : Rd) (g : Int) : List Sn → Int → Bool
  | [], _ => false
  | x :: l, D => decide (D < x.2) || dungBad R g l (D - x.2 + g * R.gives.1)

theorem run_zero (R : Rd) (g : Int) : ∀ (l : List Sn) (i : Nat) (s : St) (acc : List St), (runR R g l i s acc).2.2 = 0 ↔ (fodBad R g l s.1.1 = false ∧ dungBad R g l s.2.1 = false) := by
  intro l
  induction l with
  | nil => intro i s acc; simp [runR, fodBad, dungBad]
  | cons x l ih =>
    intro i s acc
    simp only [runR, fodBad, dungBad, stepR]
    split
    · rename_i e he
      split at he
      · rename_i h; cases he; simp [h]
      · split at he
        · rename_i h; cases he; simp [h]
        · cases he
    · rename_i s' he
      split at he
      · cases he
      · split at he
        · cases he
        · rename_i h1 h2
          cases he
          rw [ih]
          simp [h1, h2, nextR]
theorem run_noFod (R : Rd) (g : Int) : ∀ (l : List Sn) (i : Nat) (s : St) (acc : List St), fodBad R g l s.1.1 = false → (runR R g l i s acc).2.2 = if dungBad R g l s.2.1 then 85 else 0 := by
  intro l
  induction l with
  | nil => intro i s acc _; simp [runR, dungBad]
  | cons x l ih =>
    intro i s acc hf
    simp only [fodBad, Bool.or_eq_false_iff, decide_eq_false_iff_not] at hf
    simp only [runR, dungBad, stepR]
    by_cases h1 : s.2.1 < x.2
    · simp [h1]
    · simp only [h1, if_false, hf.1]
      rw [ih _ _ _ (by simpa [nextR] using hf.2)]
      simp [nextR]
      split <;> simp_all
theorem run_noDung (R : Rd) (g : Int) : ∀ (l : List Sn) (i : Nat) (s : St) (acc : List St), dungBad R g l s.2.1 = false → (runR R g l i s acc).2.2 = if fodBad R g l s.1.1 then 84 else 0 := by
  intro l
  induction l with
  | nil => intro i s acc _; simp [runR, fodBad]
  | cons x l ih =>
    intro i s acc hf
    simp only [dungBad, Bool.or_eq_false_iff, decide_eq_false_iff_not] at hf
    simp only [runR, fodBad, stepR, if_neg hf.1]
    by_cases h1 : s.1.1 + x.1.1 + x.2 * R.boost.1 / 1000 < g * R.eats.2
    · simp [h1]
    · simp only [h1, if_false]
      rw [ih _ _ _ (by simpa [nextR] using hf.2)]
      simp [nextR]
      split <;> simp_all
theorem fodBad_mono (R : Rd) (he : 0 ≤ R.eats.2) {g g' : Int} (hg : g ≤ g') : ∀ (l : List Sn) (F F' : Int), F' ≤ F → fodBad R g l F = true → fodBad R g' l F' = true := by
  intro l
  induction l with
  | nil => intro F F' _ h; cases h
  | cons x l ih =>
    intro F F' hF h
    have hm : g * R.eats.2 ≤ g' * R.eats.2 := Int.mul_le_mul_of_nonneg_right hg he
    simp only [fodBad, Bool.or_eq_true, decide_eq_true_eq] at h ⊢
    rcases h with h | h
    · left; omega
    · right; exact ih _ _ (by omega) h
theorem dungBad_anti (R : Rd) (he : 0 ≤ R.gives.1) {g g' : Int} (hg : g ≤ g') : ∀ (l : List Sn) (F F' : Int), F ≤ F' → dungBad R g' l F' = true → dungBad R g l F = true := by
  intro l
  induction l with
  | nil => intro F F' _ h; cases h
  | cons x l ih =>
    intro F F' hF h
    have hm : g * R.gives.1 ≤ g' * R.gives.1 := Int.mul_le_mul_of_nonneg_right hg he
    simp only [dungBad, Bool.or_eq_true, decide_eq_true_eq] at h ⊢
    rcases h with h | h
    · left; omega
    · right; exact ih _ _ (by omega) h
theorem dungBad_rich (R : Rd) (he : 0 ≤ R.gives.1) {g : Int} (hg : 0 ≤ g) : ∀ (l : List Sn) (D : Int), (∀ x ∈ l, x.2 ≤ 1000000) → 1000000 * (l.length : Int) ≤ D → dungBad R g l D = false := by
  intro l
  induction l with
  | nil => intro D _ _; rfl
  | cons x l ih =>
    intro D hx hD
    have hm : 0 ≤ g * R.gives.1 := Int.mul_nonneg hg he
    have h1 := hx x List.mem_cons_self
    simp only [List.length_cons] at hD
    simp only [dungBad, Bool.or_eq_false_iff, decide_eq_false_iff_not]
    refine ⟨by omega, ih _ (fun y hy => hx y (List.mem_cons_of_mem _ hy)) (by omega)⟩
theorem fodBad_rich (R : Rd) (g : Int) : ∀ (l : List Sn) (F : Int), fodBad (richR R) g l F = fodBad R g l F := by
  intro l
  induction l with
  | nil => intro F; rfl
  | cons x l ih => intro F; simp only [fodBad, ih]; rfl

theorem starves_eq {R : Rd} (hR : OkRd R) {g : Int} (hg : 0 ≤ g) : starvesR R g = fodBad R g R.seas R.fod.1 := by
  obtain ⟨h1, h2, h3, h4, h5, h6, h7⟩ := hR
  have hd : dungBad (richR R) g R.seas (20000000 : Int) = false :=
    dungBad_rich (richR R) h4.1 hg R.seas _ (fun x hx => (h7 x hx).2.2) (by omega)
  have := run_noDung (richR R) g R.seas 0 (R.fod, (20000000, 20000000)) [] hd
  unfold starvesR runAll
  rw [show runR (richR R) g (richR R).seas 0 ((richR R).fod, (richR R).dung) [] = runR (richR R) g R.seas 0 (R.fod, (20000000, 20000000)) [] from rfl, this]
  show decide ((if fodBad (richR R) g R.seas R.fod.1 = true then (84 : Int) else 0) = 84) = _
  rw [fodBad_rich]
  cases fodBad R g R.seas R.fod.1 <;> simp

theorem searchR_spec (so : Int → Bool) : ∀ (n : Nat) (lo hi : Int), lo ≤ hi → hi - lo ≤ (n : Int) → (∀ a b, lo ≤ a → a ≤ b → b < hi → so a = true → so b = true) →
    (∀ k, lo ≤ k → k < searchR so n lo hi → so k = false) ∧ (∀ k, searchR so n lo hi ≤ k → k < hi → so k = true) := by
  intro n
  induction n with
  | zero => intro lo hi h1 h2 _; rw [searchR]; exact ⟨fun k h3 h4 => by omega, fun k h3 h4 => by omega⟩
  | succ n ih =>
    intro lo hi h1 h2 hm
    rw [searchR]
    split
    · rename_i hlt
      split
      · rename_i hs
        obtain ⟨i1, i2⟩ := ih lo ((lo + hi) / 2) (by omega) (by omega) (fun a b ha hab hb => hm a b ha hab (by omega))
        refine ⟨i1, fun k h3 h4 => ?_⟩
        rcases Int.lt_or_le k ((lo + hi) / 2) with h | h
        · exact i2 k h3 h
        · exact hm ((lo + hi) / 2) k (by omega) h h4 hs
      · rename_i hs
        obtain ⟨i1, i2⟩ := ih ((lo + hi) / 2 + 1) hi (by omega) (by omega) (fun a b ha hab hb => hm a b (by omega) hab hb)
        refine ⟨fun k h3 h4 => ?_, i2⟩
        rcases Int.lt_or_le k ((lo + hi) / 2 + 1) with h | h
        · cases hk : so k with
          | false => rfl
          | true => exact absurd (hm k ((lo + hi) / 2) h3 (by omega) (by omega) hk) hs
        · exact i1 k h h4
    · exact ⟨fun k h3 h4 => by omega, fun k h3 h4 => by omega⟩

theorem scan_spec (R : Rd) (f e : Int) (h0 : 0 ≤ f) (hfe : f ≤ e) (hok : ∀ k : Nat, k ≤ 1000 → ((runAll R k).2.2 = 0 ↔ (f ≤ (k : Int) ∧ (k : Int) < e))) : ∀ n : Nat, n ≤ 1001 →
    scanR R n = if (n : Int) ≤ f ∨ f = e then (-1, -1) else (f, min (n : Int) e - 1) := by
  intro n
  induction n with
  | zero => intro _; simp [scanR, h0]
  | succ n ih =>
    intro hn
    have hi := ih (by omega)
    have hk := hok n (by omega)
    rw [scanR]
    by_cases hc : (runAll R n).2.2 = 0
    · rw [if_pos hc, hi]
      have := hk.1 hc
      have hn2 : ¬ (((n + 1 : Nat) : Int) ≤ f ∨ f = e) := by omega
      rw [if_neg hn2]
      by_cases h1 : (n : Int) ≤ f ∨ f = e
      · rw [if_pos h1]
        refine Prod.ext ?_ ?_
        · simp; omega
        · simp; omega
      · rw [if_neg h1]
        refine Prod.ext ?_ ?_
        · simp; omega
        · simp; omega
    · rw [if_neg hc, hi]
      have h2 : ¬ (f ≤ (n : Int) ∧ (n : Int) < e) := fun h => hc (hk.2 h)
      by_cases h1 : (n : Int) ≤ f ∨ f = e
      · rw [if_pos h1, if_pos (by omega)]
      · rw [if_neg h1, if_neg (by omega)]
        refine Prod.ext rfl ?_
        show min (n : Int) e - 1 = min ((n + 1 : Nat) : Int) e - 1
        omega

theorem goats_eq (R : Rd) : goatsP R = goatsR R := by
  unfold goatsP goatsR
  by_cases hR : OkRd R
  · rw [if_neg (not_not_intro hR), if_neg (not_not_intro hR)]
    have hst := fun {g : Int} (hg : 0 ≤ g) => starves_eq hR hg
    obtain ⟨h1, h2, h3, h4, h5, h6, h7⟩ := hR
    have he2 : 0 ≤ R.eats.2 := Int.le_trans h3.1 h3.2.1
    dsimp only
    obtain ⟨r1, r2⟩ := searchR_range (starvesR R) 1001 0 1001 (by omega)
    obtain ⟨s1, s2⟩ := searchR_spec (starvesR R) 1001 0 1001 (by omega) (by omega) (fun a b ha hab hb h => by
      rw [hst ha] at h; rw [hst (by omega)]
      exact fodBad_mono R he2 hab _ _ _ (Int.le_refl _) h)
    generalize searchR (starvesR R) 1001 0 1001 = e at *
    have herr : ∀ k : Int, 0 ≤ k → k < e → (runAll R k).2.2 = if dungBad R k R.seas R.dung.1 then 85 else 0 := fun k hk hke => by
      have h8 := s1 k hk hke
      rw [hst hk] at h8
      exact run_noFod R k R.seas 0 (R.fod, R.dung) [] h8
    have hne : ∀ k : Int, 0 ≤ k → k < e → (decide ((runAll R k).2.2 ≠ 85) = !dungBad R k R.seas R.dung.1) := fun k hk hke => by
      rw [herr k hk hke]
      cases dungBad R k R.seas R.dung.1 <;> simp
    obtain ⟨q1, q2⟩ := searchR_range (fun n => decide ((runAll R n).2.2 ≠ 85)) e.toNat 0 e (by omega)
    obtain ⟨t1, t2⟩ := searchR_spec (fun n => decide ((runAll R n).2.2 ≠ 85)) e.toNat 0 e (by omega) (by omega) (fun a b ha hab hb h => by
      rw [hne a ha (by omega)] at h
      rw [hne b (by omega) hb]
      cases hd : dungBad R b R.seas R.dung.1 with
      | false => rfl
      | true =>
        have := dungBad_anti R h4.1 hab R.seas _ _ (Int.le_refl _) hd
        rw [this] at h; cases h)
    generalize searchR (fun n => decide ((runAll R n).2.2 ≠ 85)) e.toNat 0 e = f at *
    have hsc := scan_spec R f e q1 q2 (fun k hk => by
      constructor
      · intro h0
        have hz := (run_zero R k R.seas 0 (R.fod, R.dung) []).1 h0
        have hke : (k : Int) < e := by
          rcases Int.lt_or_le (k : Int) e with h | h
          · exact h
          · have := s2 k h (by omega)
            rw [hst (by omega)] at this
            rw [hz.1] at this; cases this
        refine ⟨?_, hke⟩
        rcases Int.lt_or_le (k : Int) f with h | h
        · have := t1 k (by omega) h
          rw [h0] at this
          simp at this
        · exact h
      · rintro ⟨ha, hb⟩
        have := t2 k ha hb
        rw [hne k (by omega) hb] at this
        rw [herr k (by omega) hb]
        cases hd : dungBad R k R.seas R.dung.1 with
        | false => rfl
        | true => rw [hd] at this; cases this) 1001 (by omega)
    by_cases hfe : f = e
    · rw [if_pos (Or.inr hfe)] at hsc
      rw [if_pos hfe, hsc]; rfl
    · rw [if_neg (show ¬ (((1001 : Nat) : Int) ≤ f ∨ f = e) by omega)] at hsc
      have h9 : scanR R 1001 = (f, e - 1) := by
        rw [hsc]
        refine Prod.ext rfl ?_
        show min ((1001 : Nat) : Int) e - 1 = e - 1
        omega
      rw [if_neg hfe, h9]
      rw [if_neg (show ¬ f < 0 by omega)]
  · rw [if_pos hR, if_pos hR]
end Go.Proofs.Ytccgplomnjpniaa
/- Plain Lean: which numbers of goats may be kept. -/
namespace Go.Proofs.Ytccgplomnjpniaa
open Go Go.Eng Go.RowKit Go.Proofs
set_option linter.unusedVariables false

/-- The numbers with which all goes well lie from f on, and before e. -/
theorem goats_spec {R : Rd} (hR : OkRd R) : ∃ f e : Int, 0 ≤ f ∧ f ≤ e ∧ e ≤ 1001 ∧ (∀ k : Nat, k ≤ 1000 → ((runAll R k).2.2 = 0 ↔ (f ≤ (k : Int) ∧ (k : Int) < e))) ∧ goatsP R = if f = e then ((0, 0), 6) else ((f, e - 1), 0) := by
    unfold goatsP
    rw [if_neg (not_not_intro hR)]
    have hst := fun {g : Int} (hg : 0 ≤ g) => starves_eq hR hg
    obtain ⟨h1, h2, h3, h4, h5, h6, h7⟩ := hR
    have he2 : 0 ≤ R.eats.2 := Int.le_trans h3.1 h3.2.1
    dsimp only
    obtain ⟨r1, r2⟩ := searchR_range (starvesR R) 1001 0 1001 (by omega)
    obtain ⟨s1, s2⟩ := searchR_spec (starvesR R) 1001 0 1001 (by omega) (by omega) (fun a b ha hab hb h => by
      rw [hst ha] at h; rw [hst (by omega)]
      exact fodBad_mono R he2 hab _ _ _ (Int.le_refl _) h)
    generalize searchR (starvesR R) 1001 0 1001 = e at *
    have herr : ∀ k : Int, 0 ≤ k → k < e → (runAll R k).2.2 = if dungBad R k R.seas R.dung.1 then 85 else 0 := fun k hk hke => by
      have h8 := s1 k hk hke
      rw [hst hk] at h8
      exact run_noFod R k R.seas 0 (R.fod, R.dung) [] h8
    have hne : ∀ k : Int, 0 ≤ k → k < e → (decide ((runAll R k).2.2 ≠ 85) = !dungBad R k R.seas R.dung.1) := fun k hk hke => by
      rw [herr k hk hke]
      cases dungBad R k R.seas R.dung.1 <;> simp
    obtain ⟨q1, q2⟩ := searchR_range (fun n => decide ((runAll R n).2.2 ≠ 85)) e.toNat 0 e (by omega)
    obtain ⟨t1, t2⟩ := searchR_spec (fun n => decide ((runAll R n).2.2 ≠ 85)) e.toNat 0 e (by omega) (by omega) (fun a b ha hab hb h => by
      rw [hne a ha (by omega)] at h
      rw [hne b (by omega) hb]
      cases hd : dungBad R b R.seas R.dung.1 with
      | false => rfl
      | true =>
        have := dungBad_anti R h4.1 hab R.seas _ _ (Int.le_refl _) hd
        rw [this] at h; cases h)
    generalize searchR (fun n => decide ((runAll R n).2.2 ≠ 85)) e.toNat 0 e = f at *
    refine ⟨f, e, q1, q2, r2, fun k hk => ?_, rfl⟩
    constructor
    · intro h0
      have hz := (run_zero R k R.seas 0 (R.fod, R.dung) []).1 h0
      have hke : (k : Int) < e := by
        rcases Int.lt_or_le (k : Int) e with h | h
        · exact h
        · have := s2 k h (by omega)
          rw [hst (by omega)] at this
          rw [hz.1] at this; cases this
      refine ⟨?_, hke⟩
      rcases Int.lt_or_le (k : Int) f with h | h
      · have := t1 k (by omega) h
        rw [h0] at this
        simp at this
      · exact h
    · rintro ⟨ha, hb⟩
      have := t2 k ha hb
      rw [hne k (by omega) hb] at this
      rw [herr k (by omega) hb]
      cases hd : dungBad R k R.seas R.dung.1 with
      | false => rfl
      | true => rw [hd] at this; cases this
end Go.Proofs.Ytccgplomnjpniaa
