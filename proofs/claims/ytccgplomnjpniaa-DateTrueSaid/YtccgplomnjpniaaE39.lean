/- Plain law: what is so of each date lies in what is told. -/
import Derived.Test.YtccgplomnjpniaaE37
namespace Go.Proofs.Ytccgplomnjpniaa
open Go Go.Eng Go.RowKit Go.Proofs

/-- The numbers of what is so: of each grade, ripened, taken, fallen, hanging, and the worth. -/
structure Tr where
  g0 : Int
  g1 : Int
  g2 : Int
  rip : Int
  tak : Int
  fal : Int
  han : Int
  wor : Int
def Wi (n : Int) (s : Sp) : Prop := s.1 ≤ n ∧ n ≤ s.2
structure Tin (t : Tr) (y : Yd) : Prop where
  g0 : Wi t.g0 y.g0
  g1 : Wi t.g1 y.g1
  g2 : Wi t.g2 y.g2
  tak : Wi t.tak y.taken
  fal : Wi t.fal y.fallen
  han : Wi t.han y.left
  wor : Wi t.wor y.worth
  sum : t.g0 + t.g1 + t.g2 + t.tak + t.fal + t.han = t.rip
def prc (f : Ft) (g : Int) : Int := if g = 0 then f.p0 else if g = 1 then f.p1 else f.p2
def incG (f : Ft) (t : Tr) (mo m : Int) : Tr := { t with g0 := if gradeR f mo = 0 then t.g0 + m else t.g0, g1 := if gradeR f mo = 1 then t.g1 + m else t.g1, g2 := if gradeR f mo = 2 then t.g2 + m else t.g2, wor := t.wor + m * prc f (gradeR f mo) }
/-- What is so of one day's dates after e days. -/
structure DayI (f : Ft) (b : Bn) (n0 e m0 m1 n half tk : Int) : Prop where
  m0 : max (f.wet.1 - e * f.dry.2) 0 ≤ m0 ∧ m0 ≤ max (f.wet.2 - e * f.dry.1) 0
  m1 : max (f.wet.1 - e * f.dry.2) 0 ≤ m1 ∧ m1 ≤ max (f.wet.2 - e * f.dry.1) 0
  all : n + tk = n0
  tk : min n0 (bLo b e) ≤ tk ∧ tk ≤ min n0 (bHi b e)
  half : 0 ≤ half ∧ half ≤ n
theorem DayI.start {f : Ft} {b : Bn} (hf : OkFt f) {n0 m0 m1 : Int} (h0 : 0 ≤ n0) (hm0 : Wi m0 f.wet) (hm1 : Wi m1 f.wet) : DayI f b n0 0 m0 m1 n0 (n0 / 2) 0 := by
  have h1 := hf.1
  simp only [Ord] at h1
  simp only [Wi] at hm0 hm1
  refine ⟨by omega, by omega, by omega, ?_, by omega⟩
  unfold bLo bHi
  split <;> omega
theorem DayI.dry {f : Ft} {b : Bn} (hf : OkFt f) {n0 e m0 m1 n half tk x0 x1 : Int} (h : DayI f b n0 e m0 m1 n half tk) (hx0 : Wi x0 f.dry) (hx1 : Wi x1 f.dry) :
    (max (f.wet.1 - (e + 1) * f.dry.2) 0 ≤ max 0 (m0 - x0) ∧ max 0 (m0 - x0) ≤ max (f.wet.2 - (e + 1) * f.dry.1) 0) ∧ (max (f.wet.1 - (e + 1) * f.dry.2) 0 ≤ max 0 (m1 - x1) ∧ max 0 (m1 - x1) ≤ max (f.wet.2 - (e + 1) * f.dry.1) 0) := by
  obtain ⟨h1, h2, _⟩ := h
  have h3 := hf.2.1
  simp only [Ord] at h3
  simp only [Wi] at hx0 hx1
  rw [show (e + 1) * f.dry.1 = e * f.dry.1 + f.dry.1 by rw [Int.add_mul, Int.one_mul], show (e + 1) * f.dry.2 = e * f.dry.2 + f.dry.2 by rw [Int.add_mul, Int.one_mul]]
  omega
theorem DayI.net {f : Ft} {b : Bn} (hf : OkFt f) (hc : b.cov = true) {n0 e m0 m1 n half tk x0 x1 : Int} (h : DayI f b n0 e m0 m1 n half tk) (hx0 : Wi x0 f.dry) (hx1 : Wi x1 f.dry) :
    DayI f b n0 (e + 1) (max 0 (m0 - x0)) (max 0 (m1 - x1)) n half tk := by
  obtain ⟨d1, d2⟩ := h.dry hf hx0 hx1
  have h4 := h.tk
  unfold bLo bHi at h4
  rw [if_pos hc, if_pos hc] at h4
  refine ⟨d1, d2, h.all, ?_, h.half⟩
  unfold bLo bHi
  rw [if_pos hc, if_pos hc]
  exact h4
theorem DayI.birds {f : Ft} {b : Bn} (hf : OkFt f) (hb : OkBn b) (hc : b.cov = false) {n0 e m0 m1 n half tk x0 x1 xb : Int} (h : DayI f b n0 e m0 m1 n half tk) (hx0 : Wi x0 f.dry) (hx1 : Wi x1 f.dry) (hxb : Wi xb b.birds) :
    DayI f b n0 (e + 1) (max 0 (m0 - x0)) (max 0 (m1 - x1)) (n - min n xb) (min half (n - min n xb)) (tk + min n xb) := by
  obtain ⟨d1, d2⟩ := h.dry hf hx0 hx1
  have h3 := h.all
  have h4 := h.tk
  have h5 := h.half
  have h6 := hb.2.2
  simp only [Ord] at h6
  simp only [Wi] at hxb
  have hc' : ¬ b.cov = true := by rw [hc]; simp
  unfold bLo bHi at h4
  rw [if_neg hc', if_neg hc'] at h4
  refine ⟨d1, d2, by omega, ?_, by omega⟩
  unfold bLo bHi
  rw [if_neg hc', if_neg hc', show (e + 1) * b.birds.1 = e * b.birds.1 + b.birds.1 by rw [Int.add_mul, Int.one_mul], show (e + 1) * b.birds.2 = e * b.birds.2 + b.birds.2 by rw [Int.add_mul, Int.one_mul]]
  omega
theorem DayI.left {f : Ft} {b : Bn} {s : Sp} {n0 e m0 m1 n half tk : Int} (h : DayI f b n0 e m0 m1 n half tk) (hs : Wi n0 s) : Wi tk (takenR b s e) ∧ Wi n (leftR b s e) := by
  have h3 := h.all
  have h4 := h.tk
  have h5 := h.half
  simp only [Wi, takenR, leftR] at *
  omega
theorem DayI.grade {f : Ft} {b : Bn} (hf : OkFt f) {n0 e m0 m1 n half tk : Int} (h : DayI f b n0 e m0 m1 n half tk) : (gLo f e ≤ gradeR f m0 ∧ gradeR f m0 ≤ gHi f e) ∧ (gLo f e ≤ gradeR f m1 ∧ gradeR f m1 ≤ gHi f e) := by
  have h1 := hf.2.2.2.2.1
  exact ⟨⟨gradeR_mono f h1 h.m0.2, gradeR_mono f h1 h.m0.1⟩, ⟨gradeR_mono f h1 h.m1.2, gradeR_mono f h1 h.m1.1⟩⟩
theorem prc_mem {f : Ft} (hf : OkFt f) {d : Int} (hd : In d 0 30) {g : Int} (h : gLo f d ≤ g ∧ g ≤ gHi f d) : minL (someP f d) ≤ prc f g ∧ prc f g ≤ maxL (someP f d) := by
  have h2 := gLo_hi hf hd
  have : prc f g ∈ someP f d := by
    rw [someP_mem hf hd]
    have h3 : g = 0 ∨ g = 1 ∨ g = 2 := by omega
    rcases h3 with rfl | rfl | rfl
    · exact .inl ⟨h.1, h.2, rfl⟩
    · exact .inr (.inl ⟨h.1, h.2, rfl⟩)
    · exact .inr (.inr ⟨h.1, h.2, rfl⟩)
  exact ⟨minL_le this, le_maxL this⟩
theorem Tin.cut {f : Ft} {b : Bn} {l : List Int} {i : Nat} {s : Sp} {t : Tr} {y : Yd} (hf : OkFt f) (ht : Tin t y) {n0 d m0 m1 n half tk : Int} (hd : In d 0 30) (h : DayI f b n0 d m0 m1 n half tk) (hs : Wi n0 s) (hs0 : 0 ≤ s.1) (hfate : fateR f b.ripe.length l i = (0, d)) :
    Tin (incG f (incG f { t with rip := t.rip + n0, tak := t.tak + tk } m0 half) m1 (n - half)) (stepY f b l y i s) := by
  obtain ⟨hk, hl⟩ := h.left hs
  obtain ⟨hg0, hg1⟩ := h.grade hf
  have hall := h.all
  have hh := h.half
  have hgl := gLo_hi hf hd
  obtain ⟨p1, p2⟩ := prc_mem hf hd hg0
  obtain ⟨p3, p4⟩ := prc_mem hf hd hg1
  have hpn := prices_nn hf hd
  unfold stepY
  rw [hfate]
  dsimp only
  rw [if_pos rfl]
  obtain ⟨a0, a1, a2, a3, a4, a5, a6⟩ := pick_form hf hd { y with taken := addSp y.taken (takenR b s d) } (leftR b s d)
  generalize pickR f { y with taken := addSp y.taken (takenR b s d) } (leftR b s d) d = Y at *
  have hl0 : 0 ≤ (leftR b s d).1 := by simp only [leftR]; omega
  generalize leftR b s d = lf at *
  generalize takenR b s d = tf at *
  obtain ⟨t0, t1, t2, t3, t4, t5, t6, t7⟩ := ht
  simp only [Wi] at *
  have w1 : minL (someP f d) * lf.1 ≤ minL (someP f d) * n := Int.mul_le_mul_of_nonneg_left hl.1 hpn.1
  have w2 : maxL (someP f d) * n ≤ maxL (someP f d) * lf.2 := Int.mul_le_mul_of_nonneg_left hl.2 (by omega)
  have w3 : minL (someP f d) * n = minL (someP f d) * half + minL (someP f d) * (n - half) := by rw [← Int.mul_add]; congr 1; omega
  have w4 : maxL (someP f d) * n = maxL (someP f d) * half + maxL (someP f d) * (n - half) := by rw [← Int.mul_add]; congr 1; omega
  have w5 : half * minL (someP f d) ≤ half * prc f (gradeR f m0) := Int.mul_le_mul_of_nonneg_left p1 hh.1
  have w6 : half * prc f (gradeR f m0) ≤ half * maxL (someP f d) := Int.mul_le_mul_of_nonneg_left p2 hh.1
  have w7 : (n - half) * minL (someP f d) ≤ (n - half) * prc f (gradeR f m1) := Int.mul_le_mul_of_nonneg_left p3 (by omega)
  have w8 : (n - half) * prc f (gradeR f m1) ≤ (n - half) * maxL (someP f d) := Int.mul_le_mul_of_nonneg_left p4 (by omega)
  rw [Int.mul_comm half (minL _)] at w5
  rw [Int.mul_comm (n - half) (minL _)] at w7
  rw [Int.mul_comm half (maxL _)] at w6
  rw [Int.mul_comm (n - half) (maxL _)] at w8
  have c0 : gradeR f m0 = 0 ∨ gradeR f m0 = 1 ∨ gradeR f m0 = 2 := by omega
  have c1 : gradeR f m1 = 0 ∨ gradeR f m1 = 1 ∨ gradeR f m1 = 2 := by omega
  unfold incG
  generalize gradeR f m0 = x0 at *
  generalize gradeR f m1 = x1 at *
  dsimp only
  generalize half * prc f x0 = v0 at *
  generalize (n - half) * prc f x1 = v1 at *
  generalize minL (someP f d) * lf.1 = v2 at *
  generalize maxL (someP f d) * lf.2 = v3 at *
  generalize minL (someP f d) * n = v4 at *
  generalize maxL (someP f d) * n = v5 at *
  generalize minL (someP f d) * half = v6 at *
  generalize maxL (someP f d) * half = v7 at *
  generalize minL (someP f d) * (n - half) = v8 at *
  generalize maxL (someP f d) * (n - half) = v9 at *
  generalize gLo f d = q0 at *
  generalize gHi f d = q1 at *
  simp only [addSp] at a3
  refine ⟨?_, ?_, ?_, ?_, ?_, ?_, ?_, ?_⟩
  · rw [a0]; simp only [Wi]; refine ⟨?_, ?_⟩ <;> (split <;> split <;> split <;> omega)
  · rw [a1]; simp only [Wi]; refine ⟨?_, ?_⟩ <;> (split <;> split <;> split <;> omega)
  · rw [a2]; simp only [Wi]; refine ⟨?_, ?_⟩ <;> (split <;> split <;> split <;> omega)
  · rw [a3]; simp only [Wi]; omega
  · rw [a4]; exact t4
  · rw [a5]; exact t5
  · rw [a6]; simp only [Wi]; omega
  · dsimp only
    rcases c0 with rfl | rfl | rfl <;> rcases c1 with rfl | rfl | rfl <;> simp <;> omega
theorem Tin.fall {f : Ft} {b : Bn} {l : List Int} {i : Nat} {s : Sp} {t : Tr} {y : Yd} (ht : Tin t y) {n0 d m0 m1 n half tk : Int} (h : DayI f b n0 d m0 m1 n half tk) (hs : Wi n0 s) (hfate : fateR f b.ripe.length l i = (1, d)) :
    Tin { t with rip := t.rip + n0, tak := t.tak + tk, fal := t.fal + n } (stepY f b l y i s) := by
  obtain ⟨hk, hl⟩ := h.left hs
  have hall := h.all
  obtain ⟨t0, t1, t2, t3, t4, t5, t6, t7⟩ := ht
  unfold stepY
  rw [hfate]
  dsimp only
  rw [if_neg (by decide), if_pos rfl]
  simp only [Wi] at *
  refine ⟨t0, t1, t2, ?_, ?_, t5, t6, ?_⟩ <;> simp only [addSp, Wi] <;> omega
theorem Tin.hang {f : Ft} {b : Bn} {l : List Int} {i : Nat} {s : Sp} {t : Tr} {y : Yd} (ht : Tin t y) {n0 d m0 m1 n half tk : Int} (h : DayI f b n0 d m0 m1 n half tk) (hs : Wi n0 s) (hfate : fateR f b.ripe.length l i = (2, d)) :
    Tin { t with rip := t.rip + n0, tak := t.tak + tk, han := t.han + n } (stepY f b l y i s) := by
  obtain ⟨hk, hl⟩ := h.left hs
  have hall := h.all
  obtain ⟨t0, t1, t2, t3, t4, t5, t6, t7⟩ := ht
  unfold stepY
  rw [hfate]
  dsimp only
  rw [if_neg (by decide), if_neg (by decide)]
  simp only [Wi] at *
  refine ⟨t0, t1, t2, ?_, t4, ?_, t6, ?_⟩ <;> simp only [addSp, Wi] <;> omega

/-! What becomes of the dates of a day. -/
theorem cutAt_min (n i : Int) : ∀ (l : List Int) (lo c : Int), cutsB n lo l = true → cutAt l i = some c → ∀ y ∈ l, i ≤ y → c ≤ y := by
  intro l
  induction l with
  | nil => intro lo c _ _ y hy; cases hy
  | cons x l ih =>
    intro lo c h hc y hy hiy
    have h' : (decide (In x lo (n - 1)) && cutsB n (x + 1) l) = true := h
    rw [Bool.and_eq_true] at h'
    have hge : ∀ (l : List Int) (lo : Int), cutsB n lo l = true → ∀ y ∈ l, lo ≤ y := by
      intro l
      induction l with
      | nil => intro lo _ y hy; cases hy
      | cons z l ih2 =>
        intro lo h y hy
        have h2 : (decide (In z lo (n - 1)) && cutsB n (z + 1) l) = true := h
        rw [Bool.and_eq_true, decide_eq_true_iff] at h2
        simp only [In] at h2
        rcases List.mem_cons.1 hy with rfl | hy
        · exact h2.1.1
        · have := ih2 _ h2.2 y hy; omega
    unfold cutAt at hc
    by_cases hx : i ≤ x
    · rw [List.find?_cons, decide_eq_true hx] at hc
      cases hc
      rcases List.mem_cons.1 hy with rfl | hy
      · exact Int.le_refl _
      · have := hge l _ h'.2 y hy; omega
    · rw [List.find?_cons, decide_eq_false hx] at hc
      rcases List.mem_cons.1 hy with rfl | hy
      · exact absurd hiy hx
      · exact ih _ c h'.2 hc y hy hiy
theorem cutAt_mem {l : List Int} {i c : Int} (h : cutAt l i = some c) : c ∈ l ∧ i ≤ c := by
  unfold cutAt at h
  exact ⟨List.mem_of_find?_eq_some h, by simpa using List.find?_some h⟩
theorem fate_cut {f : Ft} {n : Nat} {l : List Int} {i : Nat} {d : Int} (h : cutsB n 0 l = true) (hd : 0 ≤ d) (hk : d ≤ f.keep) (hin : (i : Int) + d ∈ l) (hno : ∀ j : Int, i ≤ j → j < i + d → j ∉ l) : fateR f n l i = (0, d) := by
  unfold fateR
  cases hc : cutAt l i with
  | none =>
    unfold cutAt at hc
    rw [List.find?_eq_none] at hc
    have := hc _ hin
    simp at this; omega
  | some c =>
    obtain ⟨h1, h2⟩ := cutAt_mem hc
    have h3 := cutAt_min n i l 0 c h hc _ hin (by omega)
    have h4 : c = i + d := by
      by_cases h5 : c < i + d
      · exact absurd h1 (hno c h2 h5)
      · omega
    subst h4
    dsimp only
    rw [if_pos (by omega), show (i : Int) + d - i = d by omega]
theorem fate_fall {f : Ft} {n : Nat} {l : List Int} {i : Nat} (hk : (i : Int) + f.keep + 1 ≤ (n : Int) - 1) (hno : ∀ j : Int, i ≤ j → j < i + f.keep + 1 → j ∉ l) : fateR f n l i = (1, f.keep + 1) := by
  have hr : restR f n i = (1, f.keep + 1) := by unfold restR; rw [if_pos (by omega)]
  unfold fateR
  cases hc : cutAt l i with
  | none => exact hr
  | some c =>
    obtain ⟨h1, h2⟩ := cutAt_mem hc
    dsimp only
    rw [if_neg (fun h => hno c h2 (by omega) h1)]
    exact hr
theorem fate_hang {f : Ft} {n : Nat} {l : List Int} {i : Nat} (h : cutsB n 0 l = true) (hl : l.length ≤ 1000000) (hk : (n : Int) - 1 - i ≤ f.keep) (hno : ∀ j : Int, i ≤ j → j < n → j ∉ l) : fateR f n l i = (2, (n : Int) - 1 - i) := by
  have hr : restR f n i = (2, (n : Int) - 1 - i) := by unfold restR; rw [if_neg (by omega)]
  unfold fateR
  cases hc : cutAt l i with
  | none => exact hr
  | some c =>
    obtain ⟨h1, h2⟩ := cutAt_mem hc
    have := (cutsB_ok hl h).inn c h1
    exact absurd h1 (hno c h2 (by omega))
end Go.Proofs.Ytccgplomnjpniaa
