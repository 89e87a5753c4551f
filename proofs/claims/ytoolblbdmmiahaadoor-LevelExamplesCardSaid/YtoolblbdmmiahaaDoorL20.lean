/- Plain law: the chapter's examples. -/
import Derived.Test.YtoolblbdmmiahaaDoorLF
namespace Go.Proofs.YtoolblbdmmiahaaDoor
open Go Go.Eng Go.RowKit Go.Proofs

def falaj0 : Sv := ⟨4, [⟨0, 1, (-110, -100)⟩, ⟨1, 2, (-55, -45)⟩, ⟨0, 2, (-160, -150)⟩, ⟨3, 2, (20, 30)⟩], [⟨0, (1000, 1000)⟩], [⟨0, 2, (50000, 51000)⟩]⟩
def crook0 : Sv := ⟨4, [⟨0, 1, (-110, -100)⟩, ⟨1, 2, (-55, -45)⟩, ⟨0, 2, (-180, -170)⟩, ⟨3, 2, (20, 30)⟩], [⟨0, (1000, 1000)⟩], [⟨0, 2, (50000, 51000)⟩]⟩
def h4 (a b c d : Int) : Nat → Int := fun i => match i with
  | 0 => a
  | 1 => b
  | 2 => c
  | 3 => d
  | _ => 0
theorem falaj_ok : OkSv falaj0 := by decide
theorem crook_ok : OkSv crook0 := by decide
theorem F0_falaj {h : Nat → Int} : F0 falaj0 h ↔ (-10000000 ≤ h 0 - h 4 ∧ h 0 - h 4 ≤ 10000000) ∧ (-10000000 ≤ h 1 - h 4 ∧ h 1 - h 4 ≤ 10000000) ∧ (-10000000 ≤ h 2 - h 4 ∧ h 2 - h 4 ≤ 10000000) ∧ (-10000000 ≤ h 3 - h 4 ∧ h 3 - h 4 ≤ 10000000) ∧
    (-110 ≤ h 1 - h 0 ∧ h 1 - h 0 ≤ -100) ∧ (-55 ≤ h 2 - h 1 ∧ h 2 - h 1 ≤ -45) ∧ (-160 ≤ h 2 - h 0 ∧ h 2 - h 0 ≤ -150) ∧ (20 ≤ h 2 - h 3 ∧ h 2 - h 3 ≤ 30) ∧ (1000 ≤ h 0 - h 4 ∧ h 0 - h 4 ≤ 1000) := by
  constructor
  · rintro ⟨h1, h2, h3⟩
    exact ⟨h1 0 (by decide), h1 1 (by decide), h1 2 (by decide), h1 3 (by decide), h2 ⟨0, 1, (-110, -100)⟩ (by simp [falaj0]), h2 ⟨1, 2, (-55, -45)⟩ (by simp [falaj0]), h2 ⟨0, 2, (-160, -150)⟩ (by simp [falaj0]), h2 ⟨3, 2, (20, 30)⟩ (by simp [falaj0]), h3 ⟨0, (1000, 1000)⟩ (by simp [falaj0])⟩
  · rintro ⟨a0, a1, a2, a3, b1, b2, b3, b4, c1⟩
    refine ⟨fun i hi => ?_, fun x hx => ?_, fun x hx => ?_⟩
    · have hi' : i < 4 := hi
      show -10000000 ≤ h i - h 4 ∧ h i - h 4 ≤ 10000000
      rcases i with _ | _ | _ | _ | i
      · exact a0
      · exact a1
      · exact a2
      · exact a3
      · omega
    · simp [falaj0] at hx
      rcases hx with rfl | rfl | rfl | rfl
      · exact b1
      · exact b2
      · exact b3
      · exact b4
    · simp [falaj0] at hx
      subst hx
      exact c1
theorem falaj_true : okS falaj0 = true := (ok_iff falaj_ok).2 ⟨h4 1000 890 840 810, F0_falaj.2 (by simp only [h4]; omega)⟩
theorem tbl_eq {S : Sv} (hS : OkSv S) (ok : okS S = true) {i k : Nat} (hi : i < S.pts.toNat + 1) (hk : k < S.pts.toNat + 1) {v : Int} (h1 : ∀ h, F0 S h → h k - h i ≤ v) (h2 : ∃ h, F0 S h ∧ h k - h i = v) : tbl S i k = v := by
  obtain ⟨a, g, g1, g2⟩ := told0 hS ok hi hk
  obtain ⟨h, h3, h4⟩ := h2
  have := h1 g g1
  have := a h h3
  omega
theorem ft (i k : Nat) (hi : i < 5) (hk : k < 5) {v : Int} (h1 : ∀ h, F0 falaj0 h → h k - h i ≤ v) (h2 : ∃ h, F0 falaj0 h ∧ h k - h i = v) : tbl falaj0 i k = v := tbl_eq falaj_ok falaj_true hi hk h1 h2
theorem t40 : tbl falaj0 4 0 = 1000 := ft 4 0 (by omega) (by omega) (fun h hh => by rw [F0_falaj] at hh; omega) ⟨h4 1000 890 840 810, F0_falaj.2 (by simp only [h4]; omega), by simp only [h4]; omega⟩
theorem t04 : tbl falaj0 0 4 = -1000 := ft 0 4 (by omega) (by omega) (fun h hh => by rw [F0_falaj] at hh; omega) ⟨h4 1000 890 840 810, F0_falaj.2 (by simp only [h4]; omega), by simp only [h4]; omega⟩
theorem t41 : tbl falaj0 4 1 = 900 := ft 4 1 (by omega) (by omega) (fun h hh => by rw [F0_falaj] at hh; omega) ⟨h4 1000 900 850 820, F0_falaj.2 (by simp only [h4]; omega), by simp only [h4]; omega⟩
theorem t14 : tbl falaj0 1 4 = -890 := ft 1 4 (by omega) (by omega) (fun h hh => by rw [F0_falaj] at hh; omega) ⟨h4 1000 890 840 810, F0_falaj.2 (by simp only [h4]; omega), by simp only [h4]; omega⟩
theorem t42 : tbl falaj0 4 2 = 850 := ft 4 2 (by omega) (by omega) (fun h hh => by rw [F0_falaj] at hh; omega) ⟨h4 1000 900 850 820, F0_falaj.2 (by simp only [h4]; omega), by simp only [h4]; omega⟩
theorem t24 : tbl falaj0 2 4 = -840 := ft 2 4 (by omega) (by omega) (fun h hh => by rw [F0_falaj] at hh; omega) ⟨h4 1000 890 840 810, F0_falaj.2 (by simp only [h4]; omega), by simp only [h4]; omega⟩
theorem t43 : tbl falaj0 4 3 = 830 := ft 4 3 (by omega) (by omega) (fun h hh => by rw [F0_falaj] at hh; omega) ⟨h4 1000 900 850 830, F0_falaj.2 (by simp only [h4]; omega), by simp only [h4]; omega⟩
theorem t34 : tbl falaj0 3 4 = -810 := ft 3 4 (by omega) (by omega) (fun h hh => by rw [F0_falaj] at hh; omega) ⟨h4 1000 890 840 810, F0_falaj.2 (by simp only [h4]; omega), by simp only [h4]; omega⟩
theorem t12 : tbl falaj0 1 2 = -45 := ft 1 2 (by omega) (by omega) (fun h hh => by rw [F0_falaj] at hh; omega) ⟨h4 1000 890 845 820, F0_falaj.2 (by simp only [h4]; omega), by simp only [h4]; omega⟩
theorem t21 : tbl falaj0 2 1 = 55 := ft 2 1 (by omega) (by omega) (fun h hh => by rw [F0_falaj] at hh; omega) ⟨h4 1000 900 845 820, F0_falaj.2 (by simp only [h4]; omega), by simp only [h4]; omega⟩
theorem t02 : tbl falaj0 0 2 = -150 := ft 0 2 (by omega) (by omega) (fun h hh => by rw [F0_falaj] at hh; omega) ⟨h4 1000 900 850 820, F0_falaj.2 (by simp only [h4]; omega), by simp only [h4]; omega⟩
theorem t20 : tbl falaj0 2 0 = 160 := ft 2 0 (by omega) (by omega) (fun h hh => by rw [F0_falaj] at hh; omega) ⟨h4 1000 890 840 820, F0_falaj.2 (by simp only [h4]; omega), by simp only [h4]; omega⟩
theorem t01 : tbl falaj0 0 1 = -100 := ft 0 1 (by omega) (by omega) (fun h hh => by rw [F0_falaj] at hh; omega) ⟨h4 1000 900 850 820, F0_falaj.2 (by simp only [h4]; omega), by simp only [h4]; omega⟩
theorem t10 : tbl falaj0 1 0 = 110 := ft 1 0 (by omega) (by omega) (fun h hh => by rw [F0_falaj] at hh; omega) ⟨h4 1000 890 840 820, F0_falaj.2 (by simp only [h4]; omega), by simp only [h4]; omega⟩
theorem t23 : tbl falaj0 2 3 = -20 := ft 2 3 (by omega) (by omega) (fun h hh => by rw [F0_falaj] at hh; omega) ⟨h4 1000 900 850 830, F0_falaj.2 (by simp only [h4]; omega), by simp only [h4]; omega⟩
theorem t32 : tbl falaj0 3 2 = 30 := ft 3 2 (by omega) (by omega) (fun h hh => by rw [F0_falaj] at hh; omega) ⟨h4 1000 890 840 810, F0_falaj.2 (by simp only [h4]; omega), by simp only [h4]; omega⟩
theorem al1 : heightsF falaj0 = ([(1000, 1000), (890, 900), (840, 850), (810, 830)], 0) := by
  unfold heightsF
  rw [if_neg (not_not_intro falaj_ok), if_pos falaj_true]
  have e : List.range (falaj0.pts.toNat) = [0, 1, 2, 3] := by decide
  have e4 : falaj0.pts.toNat = 4 := rfl
  rw [e, e4]
  simp [fallR, t40, t04, t41, t14, t42, t24, t43, t34]
theorem al2 : fallF falaj0 1 2 = ((45, 55), 0) := by
  unfold fallF
  rw [if_neg (not_not_intro falaj_ok), if_neg (by decide), if_pos falaj_true]
  simp [fallR, t12, t21]
theorem al4 : slopeF falaj0 0 = ((2, 4), 0) := by
  unfold slopeF
  rw [if_neg (not_not_intro falaj_ok), if_neg (by decide), if_pos falaj_true]
  simp [falaj0]
  show slopeR (fallR (tbl falaj0) 0 2) (50000, 51000) = (2, 4)
  simp [fallR, t02, t20, slopeR]
theorem al5 : runsF falaj0 [0, 1, 2, 3] = ([2, 2, 2], 0) := by
  unfold runsF
  rw [if_neg (not_not_intro falaj_ok), if_neg (by decide), if_neg (by decide), if_pos falaj_true]
  have e : List.range (([0, 1, 2, 3] : List Int).length - 1) = [0, 1, 2] := by decide
  simp only [runsL]
  rw [e]
  simp [runR, fallR, t01, t10, t12, t21, t23, t32]
def readsC : List (Nat × Nat × Sp) := [(0, 1, (-110, -100)), (1, 2, (-55, -45)), (0, 2, (-180, -170)), (3, 2, (20, 30)), (4, 0, (1000, 1000))]
theorem rdsC : rds crook0 = readsC := rfl
theorem fitsC {o : Nat → Bool} {w : Int} : (solveR crook0 o w).2 = true ↔ ∃ h : Nat → Int, ((-10000000 ≤ h 0 - h 4 ∧ h 0 - h 4 ≤ 10000000) ∧ (-10000000 ≤ h 1 - h 4 ∧ h 1 - h 4 ≤ 10000000) ∧ (-10000000 ≤ h 2 - h 4 ∧ h 2 - h 4 ≤ 10000000) ∧ (-10000000 ≤ h 3 - h 4 ∧ h 3 - h 4 ≤ 10000000)) ∧
    (o 0 = false → -110 - w ≤ h 1 - h 0 ∧ h 1 - h 0 ≤ -100 + w) ∧ (o 1 = false → -55 - w ≤ h 2 - h 1 ∧ h 2 - h 1 ≤ -45 + w) ∧ (o 2 = false → -180 - w ≤ h 2 - h 0 ∧ h 2 - h 0 ≤ -170 + w) ∧ (o 3 = false → 20 - w ≤ h 2 - h 3 ∧ h 2 - h 3 ≤ 30 + w) ∧ (o 4 = false → 1000 - w ≤ h 0 - h 4 ∧ h 0 - h 4 ≤ 1000 + w) := by
  rw [fits_iff crook_ok]
  refine exists_congr fun h => ?_
  constructor
  · rintro ⟨h1, h2⟩
    exact ⟨⟨h1 0 (by decide), h1 1 (by decide), h1 2 (by decide), h1 3 (by decide)⟩, h2 0 _ rfl, h2 1 _ rfl, h2 2 _ rfl, h2 3 _ rfl, h2 4 _ rfl⟩
  · rintro ⟨⟨a0, a1, a2, a3⟩, b1, b2, b3, b4, c1⟩
    refine ⟨fun i hi => ?_, fun i x hx ho => ?_⟩
    · have hi' : i < 4 := hi
      show -10000000 ≤ h i - h 4 ∧ h i - h 4 ≤ 10000000
      rcases i with _ | _ | _ | _ | i
      · exact a0
      · exact a1
      · exact a2
      · exact a3
      · omega
    · rw [rdsC] at hx
      rcases i with _ | _ | _ | _ | _ | i
      · cases hx; exact b1 ho
      · cases hx; exact b2 ho
      · cases hx; exact b3 ho
      · cases hx; exact b4 ho
      · cases hx; exact c1 ho
      · simp [readsC] at hx
theorem al6 : widenF crook0 = (2, 0) := by
  unfold widenF
  rw [if_neg (not_not_intro crook_ok)]
  rw [← widen_unique crook_ok (w := 2) (by omega) (fitsC.2 ⟨h4 1000 888 831 811, by simp only [h4]; omega⟩) (fun a h0 h2 => ?_)]
  cases hc : (solveR crook0 (fun _ => false) a).2 with
  | false => rfl
  | true =>
    obtain ⟨h, _, b1, b2, b3, _⟩ := fitsC.1 hc
    have := b1 rfl
    have := b2 rfl
    have := b3 rfl
    omega
theorem crook_false : okS crook0 = false := by
  cases hc : okS crook0 with
  | false => rfl
  | true =>
    obtain ⟨h, _, b1, b2, b3, _⟩ := fitsC.1 hc
    have := b1 rfl
    have := b2 rfl
    have := b3 rfl
    omega
theorem out_no {o : Nat → Bool} (h0 : o 0 = false) (h1 : o 1 = false) (h2 : o 2 = false) : (solveR crook0 o 0).2 = false := by
  cases hc : (solveR crook0 o 0).2 with
  | false => rfl
  | true =>
    obtain ⟨h, _, b1, b2, b3, _⟩ := fitsC.1 hc
    have := b1 h0
    have := b2 h1
    have := b3 h2
    omega
theorem clK_yes {S : Sv} {m : Nat} (h : (solveR S (withOut (clK S m).1 m) 0).2 = true) : clK S (m + 1) = ((clK S m).1, (clK S m).2 ++ [m]) := by rw [clK, if_pos h]
theorem clK_no {S : Sv} {m : Nat} (h : (solveR S (withOut (clK S m).1 m) 0).2 = false) : clK S (m + 1) = (withOut (clK S m).1 m, (clK S m).2) := by rw [clK, if_neg (by rw [h]; simp)]
theorem clk1 : clK crook0 1 = ((clK crook0 0).1, [0]) := (clK_yes (m := 0) (fitsC.2 ⟨h4 1000 875 825 800, by simp only [h4, withOut, clK]; simp⟩)).trans rfl
theorem clk2 : clK crook0 2 = ((clK crook0 0).1, [0, 1]) := by
  rw [clK_yes (m := 1) (by rw [clk1]; exact fitsC.2 ⟨h4 1000 895 825 800, by simp only [h4, withOut, clK]; simp⟩), clk1]; rfl
theorem clk3 : clK crook0 3 = ((clK crook0 0).1, [0, 1, 2]) := by
  rw [clK_yes (m := 2) (by rw [clk2]; exact fitsC.2 ⟨h4 1000 895 845 820, by simp only [h4, withOut, clK]; simp⟩), clk2]; rfl
theorem clk4 : clK crook0 4 = (withOut (clK crook0 0).1 3, [0, 1, 2]) := by
  rw [clK_no (m := 3) (by rw [clk3]; exact out_no rfl rfl rfl), clk3]
theorem clk5 : clK crook0 5 = (withOut (withOut (clK crook0 0).1 3) 4, [0, 1, 2]) := by
  rw [clK_no (m := 4) (by rw [clk4]; exact out_no rfl rfl rfl), clk4]
theorem al7 : clashF crook0 = ([0, 1, 2], 0) := by
  unfold clashF
  rw [if_neg (not_not_intro crook_ok), if_neg (by rw [crook_false]; simp)]
  have : clashL crook0 = (clK crook0 5).2 := rfl
  rw [this, clk5]
theorem al3 : loopR falaj0 [0, 1, 2] = ((-15, 15), 0) := by decide
end Go.Proofs.YtoolblbdmmiahaaDoor
