/- Plain law: readings made wider; a survey that is true. -/
import Derived.Test.YtoolblbdmmiahaaDoorLO
namespace Go.Proofs.YtoolblbdmmiahaaDoor
open Go Go.Eng Go.RowKit Go.Proofs

def clip (s : Sp) (w m : Int) : Sp := (max (s.1 - w) (-m), min (s.2 + w) m)
def clipS (S : Sv) (w : Int) : Sv := { S with shots := S.shots.map (fun x => { x with rise := clip x.rise w 20000000 }), marks := S.marks.map (fun x => { x with ht := clip x.ht w 10000000 }) }
theorem clip_ok {S : Sv} (hS : OkSv S) {w : Int} (hw : 0 ≤ w) : OkSv (clipS S w) := by
  obtain ⟨h1, h2, h3, h4, h5, h6, h7⟩ := hS
  refine ⟨h1, by simp [clipS]; omega, by simp [clipS]; omega, h4, fun x hx => ?_, fun x hx => ?_, h7⟩
  · obtain ⟨y, hy, rfl⟩ := List.mem_map.1 hx
    have := h5 y hy
    refine ⟨this.1, ?_⟩
    have h := this.2
    simp only [Ord, clip] at *; omega
  · obtain ⟨y, hy, rfl⟩ := List.mem_map.1 hx
    have := h6 y hy
    refine ⟨this.1, ?_⟩
    have h := this.2
    simp only [Ord, clip] at *; omega
theorem base_B {S : Sv} {h : Nat → Int} (hb : ∀ i, i < S.pts.toNat → -10000000 ≤ h i - h S.pts.toNat ∧ h i - h S.pts.toNat ≤ 10000000) {i : Int} (hi : In i 0 (S.pts - 1)) : -10000000 ≤ h i.toNat - h S.pts.toNat ∧ h i.toNat - h S.pts.toNat ≤ 10000000 := by
  simp only [In] at hi
  exact hb _ (by omega)
theorem clip_fits {S : Sv} (hS : OkSv S) {w : Int} (hw : 0 ≤ w) : okS (clipS S w) = (solveR S none_ w).2 := by
  have hfit : ∀ h, F0 (clipS S w) h ↔ FitsAll S none_ w h := fun h => by
    obtain ⟨_, _, _, _, h5, h6, _⟩ := hS
    constructor
    · rintro ⟨b, s, m⟩
      refine ⟨b, fun i x hx _ => ?_⟩
      rcases List.mem_append.1 (List.mem_of_getElem? hx) with h' | h'
      · obtain ⟨y, hy, rfl⟩ := List.mem_map.1 h'
        have := s _ (List.mem_map.2 ⟨y, hy, rfl⟩)
        simp only [clip] at this
        simp only [Fits]; omega
      · obtain ⟨y, hy, rfl⟩ := List.mem_map.1 h'
        have := m _ (List.mem_map.2 ⟨y, hy, rfl⟩)
        simp only [clip, clipS] at this
        simp only [Fits]; omega
    · rintro ⟨b, hr⟩
      have key : ∀ x ∈ rds S, Fits w h x := fun x hx => by
        obtain ⟨i, hi⟩ := List.getElem?_of_mem hx
        exact hr i x hi rfl
      refine ⟨b, fun x hx => ?_, fun x hx => ?_⟩
      · obtain ⟨y, hy, rfl⟩ := List.mem_map.1 hx
        have h1 := key (y.fr.toNat, y.to.toNat, y.rise) (List.mem_append_left _ (List.mem_map.2 ⟨y, hy, rfl⟩))
        have h2 := (h5 y hy).1
        have h3 := base_B b h2.1
        have h4 := base_B b h2.2.1
        simp only [Fits] at h1
        simp only [clip]; omega
      · obtain ⟨y, hy, rfl⟩ := List.mem_map.1 hx
        have h1 := key (S.pts.toNat, y.pt.toNat, y.ht) (List.mem_append_right _ (List.mem_map.2 ⟨y, hy, rfl⟩))
        have h3 := base_B b (h6 y hy).1
        simp only [Fits] at h1
        simp only [clip, clipS]; omega
  have key : okS (clipS S w) = true ↔ (solveR S none_ w).2 = true := by
    rw [ok_iff (clip_ok hS hw), fits_iff hS]
    exact exists_congr hfit
  cases h1 : okS (clipS S w) <;> cases h2 : (solveR S none_ w).2 <;> simp_all
theorem least_fits {S : Sv} (hS : OkSv S) : okS (clipS S (widenR S)) = true ∧ (0 < widenR S → okS (clipS S (widenR S - 1)) = false) := by
  obtain ⟨h1, h2, h3, h4⟩ := widen_spec hS
  refine ⟨by rw [clip_fits hS h2]; exact h1, fun h => ?_⟩
  rw [clip_fits hS (by omega)]
  exact h4 _ (by omega) (by omega)
/-- Readings each wrong by m at most: no more error is told. -/
theorem widen_le {S : Sv} (hS : OkSv S) {m : Int} (hm : 0 ≤ m) {h : Nat → Int} (hf : FitsAll S none_ m h) : widenR S ≤ m := by
  obtain ⟨h1, h2, h3, h4⟩ := widen_spec hS
  apply Classical.byContradiction
  intro hc
  have h5 := h4 m hm (by omega)
  rw [(fits_iff hS none_ m).2 ⟨h, hf⟩] at h5
  cases h5
theorem widen_zero {S : Sv} (hS : OkSv S) (ok : okS S = true) : widenR S = 0 := by
  have := widen_le hS (Int.le_refl 0) (h := (fun k => tbl S S.pts.toNat k)) (((solve_spec hS none_ 0).1 ok).2 _ |>.1 (clo_sat (clo0 hS ok) (by omega)))
  have := (widen_spec hS).2.1
  omega

/-! Choices. -/
def uR (x : Int) : Int := x % 4294967296
def atN (l : List Int) (i : Int) : Int := if l.length = 0 then 0 else l.getD (i.toNat % l.length) 0
def partN (n : Int) (by_ : List Int) (i : Int) : Int := uR (atN by_ i) % (n + 1)
theorem partN_rg {n : Int} (hn : 0 ≤ n) (by_ : List Int) (i : Int) : 0 ≤ partN n by_ i ∧ partN n by_ i ≤ n := by
  unfold partN
  have h1 := Int.emod_nonneg (uR (atN by_ i)) (show n + 1 ≠ 0 by omega)
  have h2 := Int.emod_lt_of_pos (uR (atN by_ i)) (show 0 < n + 1 by omega)
  omega
/-- The true heights. -/
def trueH (by_ : List Int) (i : Int) : Int := partN 2000 by_ i - 1000
def trueSh (by_ : List Int) (i : Nat) (x : Sh) : Sh := { x with rise := (trueH by_ x.to - trueH by_ x.fr - partN 40 by_ ((i : Int) + 3), trueH by_ x.to - trueH by_ x.fr + partN 40 by_ ((i : Int) + 5)) }
def trueMk (by_ : List Int) (i : Nat) (x : Mk) : Mk := { x with ht := (trueH by_ x.pt - partN 30 by_ ((i : Int) + 7), trueH by_ x.pt + partN 30 by_ ((i : Int) + 9)) }
def truthS (S : Sv) (by_ : List Int) : Sv := { S with shots := S.shots.mapIdx (trueSh by_), marks := S.marks.mapIdx (trueMk by_) }
/-- The true heights, and zero. -/
def hts (S : Sv) (by_ : List Int) (i : Nat) : Int := if i < S.pts.toNat then trueH by_ (i : Int) else 0
theorem trueH_B (by_ : List Int) (i : Int) : -1000 ≤ trueH by_ i ∧ trueH by_ i ≤ 1000 := by
  have := partN_rg (n := 2000) (by omega) by_ i
  unfold trueH; omega
theorem hts_at {S : Sv} {by_ : List Int} {i : Int} (hi : In i 0 (S.pts - 1)) : hts S by_ i.toNat = trueH by_ i := by
  simp only [In] at hi
  unfold hts
  rw [if_pos (by omega), Int.toNat_of_nonneg hi.1]
theorem hts_zero (S : Sv) (by_ : List Int) : hts S by_ S.pts.toNat = 0 := by unfold hts; rw [if_neg (by omega)]
theorem truth_ok {S : Sv} (hS : OkSv S) (by_ : List Int) : OkSv (truthS S by_) ∧ F0 (truthS S by_) (hts S by_) := by
  obtain ⟨h1, h2, h3, h4, h5, h6, h7⟩ := hS
  refine ⟨⟨h1, by simpa [truthS] using h2, by simpa [truthS] using h3, h4, fun x hx => ?_, fun x hx => ?_, h7⟩, ⟨fun i hi => ?_, fun x hx => ?_, fun x hx => ?_⟩⟩
  · obtain ⟨i, hi⟩ := List.getElem?_of_mem hx
    simp only [truthS, List.getElem?_mapIdx, Option.map_eq_some_iff] at hi
    obtain ⟨y, hy, rfl⟩ := hi
    refine ⟨(h5 y (List.mem_of_getElem? hy)).1, ?_⟩
    have p1 := partN_rg (n := 40) (by omega) by_ ((i : Int) + 3)
    have p2 := partN_rg (n := 40) (by omega) by_ ((i : Int) + 5)
    have p3 := trueH_B by_ y.to
    have p4 := trueH_B by_ y.fr
    simp only [Ord, trueSh]; omega
  · obtain ⟨i, hi⟩ := List.getElem?_of_mem hx
    simp only [truthS, List.getElem?_mapIdx, Option.map_eq_some_iff] at hi
    obtain ⟨y, hy, rfl⟩ := hi
    refine ⟨(h6 y (List.mem_of_getElem? hy)).1, ?_⟩
    have p1 := partN_rg (n := 30) (by omega) by_ ((i : Int) + 7)
    have p2 := partN_rg (n := 30) (by omega) by_ ((i : Int) + 9)
    have p3 := trueH_B by_ y.pt
    simp only [Ord, trueMk]; omega
  · have e : (truthS S by_).pts = S.pts := rfl
    rw [e] at hi ⊢
    rw [hts_zero]
    have := trueH_B by_ (i : Int)
    unfold hts; rw [if_pos hi]; omega
  · obtain ⟨i, hi⟩ := List.getElem?_of_mem hx
    simp only [truthS, List.getElem?_mapIdx, Option.map_eq_some_iff] at hi
    obtain ⟨y, hy, rfl⟩ := hi
    have hy5 := (h5 y (List.mem_of_getElem? hy)).1
    have p1 := partN_rg (n := 40) (by omega) by_ ((i : Int) + 3)
    have p2 := partN_rg (n := 40) (by omega) by_ ((i : Int) + 5)
    simp only [trueSh]
    rw [hts_at hy5.1, hts_at hy5.2.1]; omega
  · obtain ⟨i, hi⟩ := List.getElem?_of_mem hx
    simp only [truthS, List.getElem?_mapIdx, Option.map_eq_some_iff] at hi
    obtain ⟨y, hy, rfl⟩ := hi
    have hy6 := (h6 y (List.mem_of_getElem? hy)).1
    have p1 := partN_rg (n := 30) (by omega) by_ ((i : Int) + 7)
    have p2 := partN_rg (n := 30) (by omega) by_ ((i : Int) + 9)
    have e : (truthS S by_).pts = S.pts := rfl
    rw [e]
    simp only [trueMk]
    rw [hts_at hy6, hts_zero]; omega
end Go.Proofs.YtoolblbdmmiahaaDoor
