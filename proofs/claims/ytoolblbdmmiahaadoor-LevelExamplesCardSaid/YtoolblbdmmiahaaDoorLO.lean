/- Plain law: all readings count: what is told of heights and falls. -/
import Derived.Test.YtoolblbdmmiahaaDoorLC
namespace Go.Proofs.YtoolblbdmmiahaaDoor
open Go Go.Eng Go.RowKit Go.Proofs

abbrev none_ : Nat → Bool := fun _ => false
def okS (S : Sv) : Bool := (solveR S none_ 0).2
def tbl (S : Sv) : Tb := (solveR S none_ 0).1
/-- Heights fit all readings. -/
structure F0 (S : Sv) (h : Nat → Int) : Prop where
  base : ∀ i, i < S.pts.toNat → -10000000 ≤ h i - h S.pts.toNat ∧ h i - h S.pts.toNat ≤ 10000000
  shots : ∀ x ∈ S.shots, x.rise.1 ≤ h x.to.toNat - h x.fr.toNat ∧ h x.to.toNat - h x.fr.toNat ≤ x.rise.2
  marks : ∀ x ∈ S.marks, x.ht.1 ≤ h x.pt.toNat - h S.pts.toNat ∧ h x.pt.toNat - h S.pts.toNat ≤ x.ht.2
theorem F0_iff {S : Sv} {h : Nat → Int} : FitsAll S none_ 0 h ↔ F0 S h := by
  constructor
  · rintro ⟨h1, h2⟩
    have key : ∀ x ∈ rds S, Fits 0 h x := fun x hx => by
      obtain ⟨i, hi⟩ := List.getElem?_of_mem hx
      exact h2 i x hi rfl
    refine ⟨h1, fun x hx => ?_, fun x hx => ?_⟩
    · have := key (x.fr.toNat, x.to.toNat, x.rise) (List.mem_append_left _ (List.mem_map.2 ⟨x, hx, rfl⟩))
      simpa [Fits] using this
    · have := key (S.pts.toNat, x.pt.toNat, x.ht) (List.mem_append_right _ (List.mem_map.2 ⟨x, hx, rfl⟩))
      simpa [Fits] using this
  · rintro ⟨h1, h2, h3⟩
    refine ⟨h1, fun i x hx _ => ?_⟩
    rcases List.mem_append.1 (List.mem_of_getElem? hx) with h | h
    · obtain ⟨y, hy, rfl⟩ := List.mem_map.1 h
      simpa [Fits] using h2 y hy
    · obtain ⟨y, hy, rfl⟩ := List.mem_map.1 h
      simpa [Fits] using h3 y hy
theorem ok_iff {S : Sv} (hS : OkSv S) : okS S = true ↔ ∃ h, F0 S h := by
  unfold okS
  rw [fits_iff hS]
  exact exists_congr fun h => F0_iff
theorem told0 {S : Sv} (hS : OkSv S) (ok : okS S = true) {i k : Nat} (hi : i < S.pts.toNat + 1) (hk : k < S.pts.toNat + 1) :
    (∀ h, F0 S h → h k - h i ≤ tbl S i k) ∧ ∃ h, F0 S h ∧ h k - h i = tbl S i k := by
  obtain ⟨h1, h, h2, h3⟩ := told hS (out := none_) (w := 0) ok hi hk
  exact ⟨fun h hh => h1 h (F0_iff.2 hh), h, F0_iff.1 h2, h3⟩
theorem clo0 {S : Sv} (hS : OkSv S) (ok : okS S = true) : Clo (S.pts.toNat + 1) (S.pts.toNat + 1) (tbl S) := ((solve_spec hS none_ 0).1 ok).1
/-- The fall from a to b; the height of a. -/
def fallR (T : Tb) (a b : Nat) : Sp := (-T a b, T b a)
theorem fall_ord {S : Sv} (hS : OkSv S) (ok : okS S = true) {i k : Nat} (hi : i < S.pts.toNat + 1) (hk : k < S.pts.toNat + 1) : (fallR (tbl S) i k).1 ≤ (fallR (tbl S) i k).2 := by
  have c := clo0 hS ok
  have h1 := c.tri i i k hi hi hk hk
  have h2 := c.diag i hi
  simp only [fallR]; omega
theorem tbl_B {S : Sv} (hS : OkSv S) (ok : okS S = true) {i k : Nat} (hi : i < S.pts.toNat + 1) (hk : k < S.pts.toNat + 1) : -20000000 ≤ tbl S i k ∧ tbl S i k ≤ 20000000 := by
  obtain ⟨_, h, h1, h2⟩ := told0 hS ok hi hk
  have b1 : ∀ j, j < S.pts.toNat + 1 → -10000000 ≤ h j - h S.pts.toNat ∧ h j - h S.pts.toNat ≤ 10000000 := fun j hj => by
    by_cases he : j = S.pts.toNat
    · rw [he]; omega
    · exact h1.base j (by omega)
  have := b1 i hi
  have := b1 k hk
  omega
theorem tbl_B0 {S : Sv} (hS : OkSv S) (ok : okS S = true) {i : Nat} (hi : i < S.pts.toNat) : tbl S i S.pts.toNat ≤ 10000000 ∧ tbl S S.pts.toNat i ≤ 10000000 := by
  obtain ⟨_, h, h1, h2⟩ := told0 hS ok (i := i) (k := S.pts.toNat) (by omega) (by omega)
  obtain ⟨_, g, g1, g2⟩ := told0 hS ok (i := S.pts.toNat) (k := i) (by omega) (by omega)
  have := h1.base i hi
  have := g1.base i hi
  omega
/-! A reading more. -/
def addMark (S : Sv) (m : Mk) : Sv := { S with marks := S.marks ++ [m] }
def addShot (S : Sv) (x : Sh) : Sv := { S with shots := S.shots ++ [x] }
theorem F0_mark {S : Sv} {m : Mk} {h : Nat → Int} : F0 (addMark S m) h ↔ F0 S h ∧ m.ht.1 ≤ h m.pt.toNat - h S.pts.toNat ∧ h m.pt.toNat - h S.pts.toNat ≤ m.ht.2 := by
  constructor
  · rintro ⟨h1, h2, h3⟩
    exact ⟨⟨h1, h2, fun x hx => h3 x (List.mem_append_left _ hx)⟩, h3 m (List.mem_append_right _ (by simp))⟩
  · rintro ⟨⟨h1, h2, h3⟩, h4⟩
    refine ⟨h1, h2, fun x hx => ?_⟩
    rcases List.mem_append.1 hx with hx | hx
    · exact h3 x hx
    · simp at hx; subst hx; exact h4
theorem F0_shot {S : Sv} {x : Sh} {h : Nat → Int} : F0 (addShot S x) h ↔ F0 S h ∧ x.rise.1 ≤ h x.to.toNat - h x.fr.toNat ∧ h x.to.toNat - h x.fr.toNat ≤ x.rise.2 := by
  constructor
  · rintro ⟨h1, h2, h3⟩
    exact ⟨⟨h1, fun x hx => h2 x (List.mem_append_left _ hx), h3⟩, h2 x (List.mem_append_right _ (by simp))⟩
  · rintro ⟨⟨h1, h2, h3⟩, h4⟩
    refine ⟨h1, fun y hy => ?_, h3⟩
    rcases List.mem_append.1 hy with hy | hy
    · exact h2 y hy
    · simp at hy; subst hy; exact h4
/-- A survey is valid and its readings fit. -/
def okH (S : Sv) : Bool := decide (OkSv S) && okS S
theorem mark_ok {S : Sv} (hS : OkSv S) (ok : okS S = true) (hl : S.marks.length ≤ 19) {a : Nat} (ha : a < S.pts.toNat) {v : Int} (hv : v = -tbl S a S.pts.toNat ∨ v = tbl S S.pts.toNat a) : okH (addMark S ⟨a, (v, v)⟩) = true := by
  have hp := hS.1
  simp only [In] at hp
  have hB := tbl_B0 hS ok ha
  have hO := fall_ord hS ok (i := a) (k := S.pts.toNat) (by omega) (by omega)
  simp only [fallR] at hO
  have hS' : OkSv (addMark S ⟨a, (v, v)⟩) := by
    obtain ⟨h1, h2, h3, h4, h5, h6, h7⟩ := hS
    refine ⟨h1, h2, by simp [addMark]; omega, h4, h5, fun x hx => ?_, h7⟩
    rcases List.mem_append.1 hx with hx | hx
    · exact h6 x hx
    · simp at hx; subst hx
      refine ⟨?_, ?_⟩
      · simp only [In, addMark]; omega
      · simp only [Ord]; omega
  unfold okH
  rw [decide_eq_true hS', Bool.true_and, ok_iff hS']
  rcases hv with rfl | rfl
  · obtain ⟨_, h, h1, h2⟩ := told0 hS ok (i := a) (k := S.pts.toNat) (by omega) (by omega)
    exact ⟨h, F0_mark.2 ⟨h1, by simp; omega⟩⟩
  · obtain ⟨_, h, h1, h2⟩ := told0 hS ok (i := S.pts.toNat) (k := a) (by omega) (by omega)
    exact ⟨h, F0_mark.2 ⟨h1, by simp; omega⟩⟩
theorem mark_no {S : Sv} (hS : OkSv S) (ok : okS S = true) {a : Nat} (ha : a < S.pts.toNat) {v : Int} (hv : v < -tbl S a S.pts.toNat ∨ tbl S S.pts.toNat a < v) : okH (addMark S ⟨a, (v, v)⟩) = false := by
  unfold okH
  cases hd : decide (OkSv (addMark S ⟨a, (v, v)⟩)) with
  | false => rfl
  | true =>
    have hS' := of_decide_eq_true hd
    cases ho : okS (addMark S ⟨a, (v, v)⟩) with
    | false => rfl
    | true =>
      obtain ⟨h, hh⟩ := (ok_iff hS').1 ho
      obtain ⟨h1, h2⟩ := F0_mark.1 hh
      have t1 := (told0 hS ok (i := a) (k := S.pts.toNat) (by omega) (by omega)).1 h h1
      have t2 := (told0 hS ok (i := S.pts.toNat) (k := a) (by omega) (by omega)).1 h h1
      simp at h2; omega
theorem shot_ok {S : Sv} (hS : OkSv S) (ok : okS S = true) (hl : S.shots.length ≤ 59) {a b : Nat} (ha : a < S.pts.toNat) (hb : b < S.pts.toNat) (hab : a ≠ b) {v : Int} (hv : v = -tbl S a b ∨ v = tbl S b a) : okH (addShot S ⟨b, a, (v, v)⟩) = true := by
  have hp := hS.1
  simp only [In] at hp
  have hB := tbl_B hS ok (i := a) (k := b) (by omega) (by omega)
  have hB' := tbl_B hS ok (i := b) (k := a) (by omega) (by omega)
  have hS' : OkSv (addShot S ⟨b, a, (v, v)⟩) := by
    obtain ⟨h1, h2, h3, h4, h5, h6, h7⟩ := hS
    refine ⟨h1, by simp [addShot]; omega, h3, h4, fun x hx => ?_, h6, h7⟩
    rcases List.mem_append.1 hx with hx | hx
    · exact h5 x hx
    · simp at hx; subst hx
      refine ⟨?_, ?_⟩
      · simp only [In, addShot]; omega
      · simp only [Ord]; omega
  unfold okH
  rw [decide_eq_true hS', Bool.true_and, ok_iff hS']
  rcases hv with rfl | rfl
  · obtain ⟨_, h, h1, h2⟩ := told0 hS ok (i := a) (k := b) (by omega) (by omega)
    exact ⟨h, F0_shot.2 ⟨h1, by simp; omega⟩⟩
  · obtain ⟨_, h, h1, h2⟩ := told0 hS ok (i := b) (k := a) (by omega) (by omega)
    exact ⟨h, F0_shot.2 ⟨h1, by simp; omega⟩⟩
theorem shot_no {S : Sv} (hS : OkSv S) (ok : okS S = true) {a b : Nat} (ha : a < S.pts.toNat) (hb : b < S.pts.toNat) {v : Int} (hv : v < -tbl S a b ∨ tbl S b a < v) : okH (addShot S ⟨b, a, (v, v)⟩) = false := by
  unfold okH
  cases hd : decide (OkSv (addShot S ⟨b, a, (v, v)⟩)) with
  | false => rfl
  | true =>
    have hS' := of_decide_eq_true hd
    cases ho : okS (addShot S ⟨b, a, (v, v)⟩) with
    | false => rfl
    | true =>
      obtain ⟨h, hh⟩ := (ok_iff hS').1 ho
      obtain ⟨h1, h2⟩ := F0_shot.1 hh
      have t1 := (told0 hS ok (i := a) (k := b) (by omega) (by omega)).1 h h1
      have t2 := (told0 hS ok (i := b) (k := a) (by omega) (by omega)).1 h h1
      simp at h2; omega
/-! Less is known of heights that fit fewer readings. -/
theorem tbl_mono {S S' : Sv} (hS : OkSv S) (hS' : OkSv S') (hn : S'.pts = S.pts) (h : ∀ g, F0 S' g → F0 S g) (ok' : okS S' = true) : okS S = true ∧ ∀ i k, i < S.pts.toNat + 1 → k < S.pts.toNat + 1 → tbl S' i k ≤ tbl S i k := by
  obtain ⟨g, hg⟩ := (ok_iff hS').1 ok'
  have ok : okS S = true := (ok_iff hS).2 ⟨g, h g hg⟩
  refine ⟨ok, fun i k hi hk => ?_⟩
  obtain ⟨_, g', h1, h2⟩ := told0 hS' ok' (i := i) (k := k) (by rw [hn]; exact hi) (by rw [hn]; exact hk)
  have := (told0 hS ok hi hk).1 g' (h g' h1)
  omega
end Go.Proofs.YtoolblbdmmiahaaDoor
