/- Plain law: what a bunch yields, of which more is known; of which there is more; of which all is known. -/
import Derived.Test.YtccgplomnjpniaaE30
namespace Go.Proofs.Ytccgplomnjpniaa
open Go Go.Eng Go.RowKit Go.Proofs

theorem foldl_mem {g : Int → Int → Int} (hg : ∀ a b, g a b = a ∨ g a b = b) : ∀ (l : List Int) (x : Int), l.foldl g x ∈ x :: l := by
  intro l
  induction l with
  | nil => intro x; simp
  | cons y l ih =>
    intro x
    have h := ih (g x y)
    rw [List.foldl_cons]
    rcases List.mem_cons.1 h with h | h
    · rcases hg x y with e | e <;> rw [h, e] <;> simp
    · exact List.mem_cons_of_mem _ (List.mem_cons_of_mem _ h)
theorem minL_mem {l : List Int} (h : l ≠ []) : minL l ∈ l := by
  cases l with
  | nil => exact absurd rfl h
  | cons x l => exact foldl_mem (fun a b => by omega) l x
theorem maxL_mem {l : List Int} (h : l ≠ []) : maxL l ∈ l := by
  cases l with
  | nil => exact absurd rfl h
  | cons x l => exact foldl_mem (fun a b => by omega) l x
theorem foldl_min_le : ∀ (l : List Int) (x : Int), ∀ y ∈ x :: l, l.foldl min x ≤ y := by
  intro l
  induction l with
  | nil => intro x y h; simp at h; subst h; exact Int.le_refl _
  | cons z l ih =>
    intro x y h
    rw [List.foldl_cons]
    have h0 := ih (min x z) (min x z) List.mem_cons_self
    rcases List.mem_cons.1 h with h | h
    · subst h; omega
    · rcases List.mem_cons.1 h with h | h
      · subst h; omega
      · exact ih _ y (List.mem_cons_of_mem _ h)
theorem foldl_max_ge : ∀ (l : List Int) (x : Int), ∀ y ∈ x :: l, y ≤ l.foldl max x := by
  intro l
  induction l with
  | nil => intro x y h; simp at h; subst h; exact Int.le_refl _
  | cons z l ih =>
    intro x y h
    rw [List.foldl_cons]
    have h0 := ih (max x z) (max x z) List.mem_cons_self
    rcases List.mem_cons.1 h with h | h
    · subst h; omega
    · rcases List.mem_cons.1 h with h | h
      · subst h; omega
      · exact ih _ y (List.mem_cons_of_mem _ h)
theorem minL_le {l : List Int} {y : Int} (h : y ∈ l) : minL l ≤ y := by
  cases l with
  | nil => cases h
  | cons x l => exact foldl_min_le l x y h
theorem le_maxL {l : List Int} {y : Int} (h : y ∈ l) : y ≤ maxL l := by
  cases l with
  | nil => cases h
  | cons x l => exact foldl_max_ge l x y h

/-- What is picked, grade by grade. -/
theorem pick_form {f : Ft} {d : Int} (hf : OkFt f) (hd : In d 0 30) (y : Yd) (left : Sp) :
    (pickR f y left d).g0 = (y.g0.1 + (if gLo f d = 0 ∧ gHi f d = 0 then left.1 else 0), y.g0.2 + (if gLo f d ≤ 0 ∧ 0 ≤ gHi f d then left.2 else 0)) ∧
    (pickR f y left d).g1 = (y.g1.1 + (if gLo f d = 1 ∧ gHi f d = 1 then left.1 else 0), y.g1.2 + (if gLo f d ≤ 1 ∧ 1 ≤ gHi f d then left.2 else 0)) ∧
    (pickR f y left d).g2 = (y.g2.1 + (if gLo f d = 2 ∧ gHi f d = 2 then left.1 else 0), y.g2.2 + (if gLo f d ≤ 2 ∧ 2 ≤ gHi f d then left.2 else 0)) ∧
    (pickR f y left d).taken = y.taken ∧ (pickR f y left d).fallen = y.fallen ∧ (pickR f y left d).left = y.left ∧
    (pickR f y left d).worth = (y.worth.1 + minL (someP f d) * left.1, y.worth.2 + maxL (someP f d) * left.2) := by
  obtain ⟨a, n, e1, e2, e3, e4, e5, e6⟩ := g_range hf (dayB hf hd) hd.1
  unfold pickR
  rw [e5, e6, e1, e2]
  have h : (a = 0 ∧ n = 1) ∨ (a = 0 ∧ n = 2) ∨ (a = 0 ∧ n = 3) ∨ (a = 1 ∧ n = 1) ∨ (a = 1 ∧ n = 2) ∨ (a = 2 ∧ n = 1) := by omega
  rcases h with ⟨rfl, rfl⟩ | ⟨rfl, rfl⟩ | ⟨rfl, rfl⟩ | ⟨rfl, rfl⟩ | ⟨rfl, rfl⟩ | ⟨rfl, rfl⟩ <;> simp [addGs, addG, plusG, addSp]
theorem someP_mem {f : Ft} {d : Int} (hf : OkFt f) (hd : In d 0 30) (x : Int) : x ∈ someP f d ↔ (gLo f d ≤ 0 ∧ 0 ≤ gHi f d ∧ x = f.p0) ∨ (gLo f d ≤ 1 ∧ 1 ≤ gHi f d ∧ x = f.p1) ∨ (gLo f d ≤ 2 ∧ 2 ≤ gHi f d ∧ x = f.p2) := by
  obtain ⟨a, n, e1, e2, e3, e4, e5, e6⟩ := g_range hf (dayB hf hd) hd.1
  unfold someP
  rw [e5, e6, e1, e2]
  have h : (a = 0 ∧ n = 1) ∨ (a = 0 ∧ n = 2) ∨ (a = 0 ∧ n = 3) ∨ (a = 1 ∧ n = 1) ∨ (a = 1 ∧ n = 2) ∨ (a = 2 ∧ n = 1) := by omega
  rcases h with ⟨rfl, rfl⟩ | ⟨rfl, rfl⟩ | ⟨rfl, rfl⟩ | ⟨rfl, rfl⟩ | ⟨rfl, rfl⟩ | ⟨rfl, rfl⟩ <;> simp [prL]
theorem gLo_hi {f : Ft} {d : Int} (hf : OkFt f) (hd : In d 0 30) : 0 ≤ gLo f d ∧ gLo f d ≤ gHi f d ∧ gHi f d ≤ 2 := by
  obtain ⟨a, n, e1, e2, e3, e4, e5, e6⟩ := g_range hf (dayB hf hd) hd.1
  omega
theorem prices_nn {f : Ft} {d : Int} (hf : OkFt f) (hd : In d 0 30) : 0 ≤ minL (someP f d) ∧ minL (someP f d) ≤ maxL (someP f d) := by
  obtain ⟨hne, _⟩ := someP_ne hf (dayB hf hd) hd.1
  exact ⟨(minL_in hne (someP_in hf d)).1, minL_le (maxL_mem hne)⟩

/-- A fruit and a bunch of which more is known. -/
structure FtN (f g : Ft) : Prop where
  wet : Ins g.wet f.wet
  dry : Ins g.dry f.dry
  soft : g.soft = f.soft
  half : g.half = f.half
  keep : g.keep = f.keep
  p0 : g.p0 = f.p0
  p1 : g.p1 = f.p1
  p2 : g.p2 = f.p2
structure BnN (b c : Bn) : Prop where
  birds : Ins c.birds b.birds
  cov : c.cov = b.cov
  len : c.ripe.length = b.ripe.length
  ripe : ∀ (i : Nat) (x y : Sp), b.ripe[i]? = some x → c.ripe[i]? = some y → Ins y x
theorem gradeR_eq {f g : Ft} (h : FtN f g) (m : Int) : gradeR g m = gradeR f m := by
  unfold gradeR; rw [h.soft, h.half]
theorem g_ins {f g : Ft} (hf : OkFt f) (h : FtN f g) {d : Int} (hd : 0 ≤ d) : gLo f d ≤ gLo g d ∧ gHi g d ≤ gHi f d := by
  have h1 : d * f.dry.1 ≤ d * g.dry.1 := Int.mul_le_mul_of_nonneg_left h.dry.1 hd
  have h2 : d * g.dry.2 ≤ d * f.dry.2 := Int.mul_le_mul_of_nonneg_left h.dry.2 hd
  have h3 := h.wet.1
  have h4 := h.wet.2
  unfold gLo gHi
  rw [gradeR_eq h, gradeR_eq h]
  exact ⟨gradeR_mono f hf.2.2.2.2.1 (by omega), gradeR_mono f hf.2.2.2.2.1 (by omega)⟩
theorem some_sub {f g : Ft} (hf : OkFt f) (hg : OkFt g) (h : FtN f g) {d : Int} (hd : In d 0 30) : ∀ x ∈ someP g d, x ∈ someP f d := by
  have := g_ins hf h hd.1
  intro x hx
  rw [someP_mem hf hd]
  rw [someP_mem hg hd, h.p0, h.p1, h.p2] at hx
  rcases hx with hx | hx | hx
  · exact .inl ⟨by omega, by omega, hx.2.2⟩
  · exact .inr (.inl ⟨by omega, by omega, hx.2.2⟩)
  · exact .inr (.inr ⟨by omega, by omega, hx.2.2⟩)
structure YIns (z y : Yd) : Prop where
  g0 : Ins z.g0 y.g0
  g1 : Ins z.g1 y.g1
  g2 : Ins z.g2 y.g2
  taken : Ins z.taken y.taken
  fallen : Ins z.fallen y.fallen
  left : Ins z.left y.left
  worth : Ins z.worth y.worth
theorem Ins.add {a b c d : Sp} (h : Ins a b) (k : Ins c d) : Ins (addSp a c) (addSp b d) := by
  obtain ⟨h1, h2⟩ := h; obtain ⟨k1, k2⟩ := k
  exact ⟨by simp only [addSp]; omega, by simp only [addSp]; omega⟩
theorem pick_ins {f g : Ft} (hf : OkFt f) (hg : OkFt g) (h : FtN f g) {d : Int} (hd : In d 0 30) {y z : Yd} (hy : YIns z y) {s t : Sp} (hs : Ins t s) (h0 : 0 ≤ s.1) (h1 : t.1 ≤ t.2) : YIns (pickR g z t d) (pickR f y s d) := by
  obtain ⟨a0, a1, a2, a3, a4, a5, a6⟩ := pick_form hf hd y s
  obtain ⟨b0, b1, b2, b3, b4, b5, b6⟩ := pick_form hg hd z t
  have k1 := g_ins hf h hd.1
  have k2 := gLo_hi hf hd
  have k3 := gLo_hi hg hd
  obtain ⟨s1, s2⟩ := hs
  obtain ⟨⟨p1, p2⟩, ⟨q1, q2⟩, ⟨r1, r2⟩, e3, e4, e5, ⟨e6, e7⟩⟩ := hy
  obtain ⟨ne, _⟩ := someP_ne hg (dayB hg hd) hd.1
  have m1 : minL (someP f d) ≤ minL (someP g d) := minL_le (some_sub hf hg h hd _ (minL_mem ne))
  have m2 : maxL (someP g d) ≤ maxL (someP f d) := le_maxL (some_sub hf hg h hd _ (maxL_mem ne))
  have m3 := prices_nn hf hd
  have m4 := prices_nn hg hd
  have w1 : minL (someP f d) * s.1 ≤ minL (someP g d) * t.1 := Int.mul_le_mul m1 s1 h0 m4.1
  have w2 : maxL (someP g d) * t.2 ≤ maxL (someP f d) * s.2 := Int.mul_le_mul m2 s2 (by omega) (by omega)
  refine ⟨?_, ?_, ?_, ?_, ?_, ?_, ?_⟩
  · rw [a0, b0]; refine ⟨?_, ?_⟩ <;> dsimp only <;> (split <;> split <;> omega)
  · rw [a1, b1]; refine ⟨?_, ?_⟩ <;> dsimp only <;> (split <;> split <;> omega)
  · rw [a2, b2]; refine ⟨?_, ?_⟩ <;> dsimp only <;> (split <;> split <;> omega)
  · rw [a3, b3]; exact e3
  · rw [a4, b4]; exact e4
  · rw [a5, b5]; exact e5
  · rw [a6, b6]; exact ⟨by dsimp only; omega, by dsimp only; omega⟩
theorem fate_eq {f g : Ft} (h : g.keep = f.keep) (n : Nat) (l : List Int) (i : Nat) : fateR g n l i = fateR f n l i := by
  unfold fateR restR; rw [h]
theorem fate_days {f : Ft} {n : Nat} {l : List Int} {i : Nat} (hf : OkFt f) (hn : n ≤ 12) (hi : i < n) : In (fateR f n l i).2 0 31 := by
  rcases fate_cases (l := l) hf hn hi with h | h
  · have := h.2; simp only [In] at this ⊢; omega
  · exact h.2
theorem bird_ins {b c : Bn} (h : BnN b c) {d : Int} (hd : 0 ≤ d) : bLo b d ≤ bLo c d ∧ bHi c d ≤ bHi b d := by
  have h1 : d * b.birds.1 ≤ d * c.birds.1 := Int.mul_le_mul_of_nonneg_left h.birds.1 hd
  have h2 : d * c.birds.2 ≤ d * b.birds.2 := Int.mul_le_mul_of_nonneg_left h.birds.2 hd
  unfold bLo bHi
  rw [h.cov]
  split
  · omega
  · exact ⟨h1, h2⟩
theorem bLo_hi {b : Bn} (hb : OkBn b) {d : Int} (hd : 0 ≤ d) : 0 ≤ bLo b d ∧ bLo b d ≤ bHi b d := by
  have h := hb.2.2
  simp only [Ord] at h
  have h1 := Int.mul_nonneg hd h.1
  have h2 : d * b.birds.1 ≤ d * b.birds.2 := Int.mul_le_mul_of_nonneg_left h.2.1 hd
  unfold bLo bHi
  split <;> omega
theorem cut_ins {f g : Ft} {b c : Bn} {l : List Int} (hf : OkFt f) (hg : OkFt g) (hb : OkBn b) (hc : OkBn c) (h : FtN f g) (k : BnN b c) : ∀ n, n ≤ b.ripe.length → YIns (cutK g c l n) (cutK f b l n) := by
  intro n
  induction n with
  | zero => intro _; simp only [cutK]; exact ⟨⟨Int.le_refl _, Int.le_refl _⟩, ⟨Int.le_refl _, Int.le_refl _⟩, ⟨Int.le_refl _, Int.le_refl _⟩, ⟨Int.le_refl _, Int.le_refl _⟩, ⟨Int.le_refl _, Int.le_refl _⟩, ⟨Int.le_refl _, Int.le_refl _⟩, ⟨Int.le_refl _, Int.le_refl _⟩⟩
  | succ n ih =>
    intro hn
    have ih := ih (by omega)
    have hlen : b.ripe.length ≤ 12 := by have := hb.1; simp only [In] at this; omega
    obtain ⟨x, hx⟩ : ∃ x, b.ripe[n]? = some x := ⟨_, List.getElem?_eq_getElem (by omega)⟩
    obtain ⟨y, hy⟩ : ∃ y, c.ripe[n]? = some y := ⟨_, List.getElem?_eq_getElem (by have := k.len; omega)⟩
    have hxy := k.ripe n x y hx hy
    have hox := hb.2.1 x (List.mem_of_getElem? hx)
    have hoy := hc.2.1 y (List.mem_of_getElem? hy)
    have ex : b.ripe.getD n (0, 0) = x := by rw [List.getD_eq_getElem?_getD, hx]; rfl
    have ey : c.ripe.getD n (0, 0) = y := by rw [List.getD_eq_getElem?_getD, hy]; rfl
    have ef := fate_eq h.keep c.ripe.length l n
    rw [k.len] at ef
    have hfd := fate_days (l := l) hf hlen (show n < b.ripe.length by omega)
    have hfc := fate_cases (l := l) hf hlen (show n < b.ripe.length by omega)
    simp only [cutK, ex, ey]
    unfold stepY
    rw [k.len, ef]
    generalize fateR f b.ripe.length l n = q at hfd hfc
    have hb1 := bird_ins k hfd.1
    have hb2 := bLo_hi hb hfd.1
    have hb3 := bLo_hi hc hfd.1
    obtain ⟨x1, x2⟩ := hxy
    simp only [Ord] at hox hoy
    have t1 : Ins (takenR c y q.2) (takenR b x q.2) := by simp only [takenR, Ins]; omega
    have t2 : Ins (leftR c y q.2) (leftR b x q.2) := by simp only [leftR, Ins]; omega
    have t3 : 0 ≤ (leftR b x q.2).1 := by simp only [leftR]; omega
    have t4 : (leftR c y q.2).1 ≤ (leftR c y q.2).2 := by simp only [leftR]; omega
    dsimp only
    have ih' : YIns { cutK g c l n with taken := addSp (cutK g c l n).taken (takenR c y q.2) } { cutK f b l n with taken := addSp (cutK f b l n).taken (takenR b x q.2) } := { ih with taken := ih.taken.add t1 }
    split
    · rename_i h0
      rcases hfc with hfc | hfc
      · exact pick_ins hf hg h hfc.2 ih' t2 t3 t4
      · omega
    · split
      · exact { ih' with fallen := ih.fallen.add t2 }
      · exact { ih' with left := ih.left.add t2 }
theorem cutR_ins {f g : Ft} {b c : Bn} (l : List Int) (hf : OkFt f) (hg : OkFt g) (hb : OkBn b) (hc : OkBn c) (h : FtN f g) (k : BnN b c) : YIns (cutR g c l) (cutR f b l) := by
  unfold cutR
  rw [k.len]
  exact cut_ins hf hg hb hc h k _ (Nat.le_refl _)

/-- No less, of both ends. -/
def Les (a b : Sp) : Prop := a.1 ≤ b.1 ∧ a.2 ≤ b.2
structure YLes (y z : Yd) : Prop where
  g0 : Les y.g0 z.g0
  g1 : Les y.g1 z.g1
  g2 : Les y.g2 z.g2
  fallen : Les y.fallen z.fallen
  left : Les y.left z.left
  worth : Les y.worth z.worth
theorem Les.add {a b c d : Sp} (h : Les a b) (k : Les c d) : Les (addSp a c) (addSp b d) := by
  obtain ⟨h1, h2⟩ := h; obtain ⟨k1, k2⟩ := k
  exact ⟨by simp only [addSp]; omega, by simp only [addSp]; omega⟩
theorem pick_les {f : Ft} (hf : OkFt f) {d : Int} (hd : In d 0 30) {y z : Yd} (hy : YLes y z) {s t : Sp} (hs : Les s t) : YLes (pickR f y s d) (pickR f z t d) := by
  obtain ⟨a0, a1, a2, a3, a4, a5, a6⟩ := pick_form hf hd y s
  obtain ⟨b0, b1, b2, b3, b4, b5, b6⟩ := pick_form hf hd z t
  obtain ⟨s1, s2⟩ := hs
  obtain ⟨⟨p1, p2⟩, ⟨q1, q2⟩, ⟨r1, r2⟩, e4, e5, ⟨e6, e7⟩⟩ := hy
  have m3 := prices_nn hf hd
  have w1 : minL (someP f d) * s.1 ≤ minL (someP f d) * t.1 := Int.mul_le_mul_of_nonneg_left s1 m3.1
  have w2 : maxL (someP f d) * s.2 ≤ maxL (someP f d) * t.2 := Int.mul_le_mul_of_nonneg_left s2 (by omega)
  refine ⟨?_, ?_, ?_, ?_, ?_, ?_⟩
  · rw [a0, b0]; refine ⟨?_, ?_⟩ <;> dsimp only <;> (split <;> omega)
  · rw [a1, b1]; refine ⟨?_, ?_⟩ <;> dsimp only <;> (split <;> omega)
  · rw [a2, b2]; refine ⟨?_, ?_⟩ <;> dsimp only <;> (split <;> omega)
  · rw [a4, b4]; exact e4
  · rw [a5, b5]; exact e5
  · rw [a6, b6]; exact ⟨by dsimp only; omega, by dsimp only; omega⟩
theorem cut_les {f : Ft} {b c : Bn} {l : List Int} (hf : OkFt f) (hn : b.ripe.length ≤ 12) (hl : c.ripe.length = b.ripe.length)
    (h : ∀ (i : Nat) (x y : Sp) (d : Int), 0 ≤ d → b.ripe[i]? = some x → c.ripe[i]? = some y → Les (leftR b x d) (leftR c y d)) : ∀ n, n ≤ b.ripe.length → YLes (cutK f b l n) (cutK f c l n) := by
  intro n
  induction n with
  | zero => intro _; simp only [cutK]; exact ⟨⟨Int.le_refl _, Int.le_refl _⟩, ⟨Int.le_refl _, Int.le_refl _⟩, ⟨Int.le_refl _, Int.le_refl _⟩, ⟨Int.le_refl _, Int.le_refl _⟩, ⟨Int.le_refl _, Int.le_refl _⟩, ⟨Int.le_refl _, Int.le_refl _⟩⟩
  | succ n ih =>
    intro hn'
    have ih := ih (by omega)
    obtain ⟨x, hx⟩ : ∃ x, b.ripe[n]? = some x := ⟨_, List.getElem?_eq_getElem (by omega)⟩
    obtain ⟨y, hy⟩ : ∃ y, c.ripe[n]? = some y := ⟨_, List.getElem?_eq_getElem (by omega)⟩
    have ex : b.ripe.getD n (0, 0) = x := by rw [List.getD_eq_getElem?_getD, hx]; rfl
    have ey : c.ripe.getD n (0, 0) = y := by rw [List.getD_eq_getElem?_getD, hy]; rfl
    have hfd := fate_days (l := l) hf hn (show n < b.ripe.length by omega)
    have hfc := fate_cases (l := l) hf hn (show n < b.ripe.length by omega)
    simp only [cutK, ex, ey]
    unfold stepY
    rw [hl]
    generalize fateR f b.ripe.length l n = q at hfd hfc
    have t2 := h n x y q.2 hfd.1 hx hy
    dsimp only
    have ih' : YLes { cutK f b l n with taken := addSp (cutK f b l n).taken (takenR b x q.2) } { cutK f c l n with taken := addSp (cutK f c l n).taken (takenR c y q.2) } := ⟨ih.g0, ih.g1, ih.g2, ih.fallen, ih.left, ih.worth⟩
    split
    · rcases hfc with hfc | hfc
      · exact pick_les hf hfc.2 ih' t2
      · omega
    · split
      · exact { ih' with fallen := ih.fallen.add t2 }
      · exact { ih' with left := ih.left.add t2 }
theorem cutR_les {f : Ft} {b c : Bn} (l : List Int) (hf : OkFt f) (hn : b.ripe.length ≤ 12) (hl : c.ripe.length = b.ripe.length)
    (h : ∀ (i : Nat) (x y : Sp) (d : Int), 0 ≤ d → b.ripe[i]? = some x → c.ripe[i]? = some y → Les (leftR b x d) (leftR c y d)) : YLes (cutR f b l) (cutR f c l) := by
  unfold cutR
  rw [hl]
  exact cut_les hf hn hl h _ (Nat.le_refl _)
/-- A covered bunch loses none to birds. -/
theorem cut_net {f : Ft} {b : Bn} {l : List Int} (hf : OkFt f) (hb : OkBn b) (hc : b.cov = true) : ∀ n, n ≤ b.ripe.length → (cutK f b l n).taken = (0, 0) := by
  intro n
  induction n with
  | zero => intro _; rfl
  | succ n ih =>
    intro hn
    have ih := ih (by omega)
    have hlen : b.ripe.length ≤ 12 := by have := hb.1; simp only [In] at this; omega
    obtain ⟨x, hx⟩ : ∃ x, b.ripe[n]? = some x := ⟨_, List.getElem?_eq_getElem (by omega)⟩
    have ex : b.ripe.getD n (0, 0) = x := by rw [List.getD_eq_getElem?_getD, hx]; rfl
    have hox := hb.2.1 x (List.mem_of_getElem? hx)
    simp only [Ord] at hox
    have hfc := fate_cases (l := l) hf hlen (show n < b.ripe.length by omega)
    simp only [cutK, ex]
    unfold stepY
    generalize fateR f b.ripe.length l n = q at hfc
    have e : addSp (cutK f b l n).taken (takenR b x q.2) = (0, 0) := by
      rw [ih]; simp only [addSp, takenR, bLo, bHi, if_pos hc]
      rw [Int.min_eq_right hox.1, Int.min_eq_right (by omega)]; rfl
    dsimp only
    split
    · rcases hfc with hfc | hfc
      · rw [(pick_form hf hfc.2 _ _).2.2.2.1]; exact e
      · omega
    · split
      · exact e
      · exact e
end Go.Proofs.Ytccgplomnjpniaa
