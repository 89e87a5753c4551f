/- Plain law: what the solved table of a survey says of the heights that fit. -/
import Derived.Test.YtoolblbdmmiahaaDoorLP
namespace Go.Proofs.YtoolblbdmmiahaaDoor
open Go Go.Eng Go.RowKit Go.Proofs

theorem lowT_get (T : Tb) (i k : Nat) (v : Int) (a b : Nat) : lowT T i k v a b = if a = i ∧ b = k then min (T a b) v else T a b := by
  unfold lowT upd
  by_cases h : a = i ∧ b = k
  · rw [if_pos h, if_pos h, h.1, h.2]
  · rw [if_neg h, if_neg h]
theorem sat_low {w : Nat} {T : Tb} {i k : Nat} {v : Int} {h : Nat → Int} (hi : i < w) (hk : k < w) : Sat w (lowT T i k v) h ↔ Sat w T h ∧ h k - h i ≤ v := by
  constructor
  · intro hs
    refine ⟨fun a b ha hb => ?_, ?_⟩
    · have := hs a b ha hb
      rw [lowT_get] at this
      split at this <;> omega
    · have := hs i k hi hk
      rw [lowT_get, if_pos ⟨rfl, rfl⟩] at this; omega
  · rintro ⟨h1, h2⟩ a b ha hb
    rw [lowT_get]
    have := h1 a b ha hb
    split
    · rename_i h3; obtain ⟨rfl, rfl⟩ := h3; omega
    · exact this
/-- A reading fits. -/
def Fits (w : Int) (h : Nat → Int) (x : Nat × Nat × Sp) : Prop := x.2.2.1 - w ≤ h x.2.1 - h x.1 ∧ h x.2.1 - h x.1 ≤ x.2.2.2 + w
theorem sat_add {m : Nat} {w : Int} {T : Tb} {x : Nat × Nat × Sp} {h : Nat → Int} (hi : x.1 < m) (hk : x.2.1 < m) : Sat m (addRd w T x) h ↔ Sat m T h ∧ Fits w h x := by
  unfold addRd
  rw [sat_low hk hi, sat_low hi hk]
  unfold Fits
  constructor
  · rintro ⟨⟨h1, h2⟩, h3⟩; exact ⟨h1, by omega, h2⟩
  · rintro ⟨h1, h2, h3⟩; exact ⟨⟨h1, h3⟩, by omega⟩
theorem rds_ok {S : Sv} (hS : OkSv S) : ∀ x ∈ rds S, x.1 < S.pts.toNat + 1 ∧ x.2.1 < S.pts.toNat + 1 ∧ x.1 ≠ x.2.1 := by
  obtain ⟨h1, _, _, _, h5, h6, _⟩ := hS
  simp only [In] at h1
  intro x hx
  rcases List.mem_append.1 hx with h | h
  · obtain ⟨y, hy, rfl⟩ := List.mem_map.1 h
    have := (h5 y hy).1
    simp only [In] at this
    dsimp only; omega
  · obtain ⟨y, hy, rfl⟩ := List.mem_map.1 h
    have := (h6 y hy).1
    simp only [In] at this
    dsimp only; omega
theorem sat_rdT {S : Sv} (hS : OkSv S) (out : Nat → Bool) (w : Int) (h : Nat → Int) : ∀ m, Sat (S.pts.toNat + 1) (rdT S out w m) h ↔ Sat (S.pts.toNat + 1) (base S.pts.toNat) h ∧ ∀ i x, i < m → (rds S)[i]? = some x → out i = false → Fits w h x := by
  intro m
  induction m with
  | zero => exact ⟨fun h => ⟨h, fun i x hi => by omega⟩, fun h => h.1⟩
  | succ m ih =>
    rw [rdT]
    cases hx : (rds S)[m]? with
    | none =>
      dsimp only
      rw [ih]
      refine and_congr_right fun _ => ⟨fun h i x hi hix ho => ?_, fun h i x hi hix ho => h i x (by omega) hix ho⟩
      by_cases hm : i = m
      · subst hm; rw [hx] at hix; cases hix
      · exact h i x (by omega) hix ho
    | some x =>
      dsimp only
      have hxo := rds_ok hS x (List.mem_of_getElem? hx)
      cases ho : out m with
      | true =>
        rw [if_pos rfl, ih]
        refine and_congr_right fun _ => ⟨fun h i y hi hiy hoi => ?_, fun h i y hi hiy hoi => h i y (by omega) hiy hoi⟩
        by_cases hm : i = m
        · subst hm; rw [ho] at hoi; cases hoi
        · exact h i y (by omega) hiy hoi
      | false =>
        rw [if_neg (by simp), sat_add hxo.1 hxo.2.1, ih]
        constructor
        · rintro ⟨⟨h1, h2⟩, h3⟩
          refine ⟨h1, fun i y hi hiy hoi => ?_⟩
          by_cases hm : i = m
          · subst hm; rw [hx] at hiy; cases hiy; exact h3
          · exact h2 i y (by omega) hiy hoi
        · rintro ⟨h1, h2⟩
          exact ⟨⟨h1, fun i y hi hiy hoi => h2 i y (by omega) hiy hoi⟩, h2 m x (by omega) hx ho⟩
theorem diag_rdT {S : Sv} (hS : OkSv S) (out : Nat → Bool) (w : Int) : ∀ m, ∀ a, rdT S out w m a a = 0 := by
  intro m
  induction m with
  | zero => intro a; simp [rdT, base]
  | succ m ih =>
    intro a
    rw [rdT]
    cases hx : (rds S)[m]? with
    | none => exact ih a
    | some x =>
      have hxo := rds_ok hS x (List.mem_of_getElem? hx)
      dsimp only
      split
      · exact ih a
      · unfold addRd
        rw [lowT_get, if_neg (by omega), lowT_get, if_neg (by omega)]
        exact ih a
/-- Heights fit a survey: all that count of its readings; zero is that of point n. -/
def FitsAll (S : Sv) (out : Nat → Bool) (w : Int) (h : Nat → Int) : Prop :=
  (∀ i, i < S.pts.toNat → -10000000 ≤ h i - h S.pts.toNat ∧ h i - h S.pts.toNat ≤ 10000000) ∧ ∀ i x, (rds S)[i]? = some x → out i = false → Fits w h x
theorem sat_base {n : Nat} {h : Nat → Int} : Sat (n + 1) (base n) h ↔ ∀ i, i < n → -10000000 ≤ h i - h n ∧ h i - h n ≤ 10000000 := by
  constructor
  · intro hs i hi
    have h1 := hs n i (by omega) (by omega)
    have h2 := hs i n (by omega) (by omega)
    unfold base at h1 h2
    rw [if_neg (by omega), if_pos (.inl ⟨rfl, hi⟩)] at h1
    rw [if_neg (by omega), if_pos (.inr ⟨rfl, hi⟩)] at h2
    omega
  · intro hs a b ha hb
    unfold base
    by_cases hab : a = b
    · subst hab; rw [if_pos rfl]; omega
    · rw [if_neg hab]
      by_cases h1 : (a = n ∧ b < n) ∨ (b = n ∧ a < n)
      · rw [if_pos h1]
        rcases h1 with ⟨rfl, h1⟩ | ⟨rfl, h1⟩
        · exact (hs b h1).2
        · have := (hs a h1).1; omega
      · rw [if_neg h1]
        have h2 := hs a (by omega)
        have h3 := hs b (by omega)
        omega
theorem solve_spec {S : Sv} (hS : OkSv S) (out : Nat → Bool) (w : Int) :
    ((solveR S out w).2 = true → Clo (S.pts.toNat + 1) (S.pts.toNat + 1) (solveR S out w).1 ∧ ∀ h, Sat (S.pts.toNat + 1) (solveR S out w).1 h ↔ FitsAll S out w h) ∧ ((solveR S out w).2 = false → ∀ h, ¬ FitsAll S out w h) := by
  have hk := fwAll_spec (T := rdT S out w (rds S).length) (w := S.pts.toNat + 1) (fun a _ => diag_rdT hS out w _ a) (S.pts.toNat + 1) (Nat.le_refl _)
  have key : ∀ h, Sat (S.pts.toNat + 1) (rdT S out w (rds S).length) h ↔ FitsAll S out w h := fun h => by
    rw [sat_rdT hS, sat_base]
    exact and_congr_right fun _ => ⟨fun h i x hx => h i x (List.getElem?_eq_some_iff.1 hx).1 hx, fun h i x _ hx => h i x hx⟩
  exact ⟨fun h1 => ⟨(hk.1 h1).1, fun h => ((hk.1 h1).2 h).trans (key h)⟩, fun h1 h h2 => hk.2 h1 h ((key h).2 h2)⟩
/-- Fitting: some heights do. -/
theorem fits_iff {S : Sv} (hS : OkSv S) (out : Nat → Bool) (w : Int) : (solveR S out w).2 = true ↔ ∃ h, FitsAll S out w h := by
  obtain ⟨h1, h2⟩ := solve_spec hS out w
  constructor
  · intro h
    obtain ⟨c, s⟩ := h1 h
    exact ⟨_, (s _).1 (clo_sat c (a := S.pts.toNat) (by omega))⟩
  · rintro ⟨h, hh⟩
    cases hc : (solveR S out w).2 with
    | true => rfl
    | false => exact absurd hh (h2 hc h)
/-- What is told of k above i: no fitting heights are beyond it, and some reach it. -/
theorem told {S : Sv} (hS : OkSv S) {out : Nat → Bool} {w : Int} (ok : (solveR S out w).2 = true) {i k : Nat} (hi : i < S.pts.toNat + 1) (hk : k < S.pts.toNat + 1) :
    (∀ h, FitsAll S out w h → h k - h i ≤ (solveR S out w).1 i k) ∧ ∃ h, FitsAll S out w h ∧ h k - h i = (solveR S out w).1 i k := by
  obtain ⟨c, s⟩ := (solve_spec hS out w).1 ok
  refine ⟨fun h hh => (s h).2 hh i k hi hk, _, (s _).1 (clo_sat c (a := i) hi), ?_⟩
  have := c.diag i hi
  omega
end Go.Proofs.YtoolblbdmmiahaaDoor
