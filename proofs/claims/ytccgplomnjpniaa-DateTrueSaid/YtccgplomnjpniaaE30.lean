/- Plain law: a round of which more is known, and a richer one. -/
import Derived.Test.YtccgplomnjpniaaE29
namespace Go.Proofs.Ytccgplomnjpniaa
open Go Go.Eng Go.RowKit Go.Proofs

/-- The round K lets no less be done than the round R. -/
structure Wid (R K : Rd) : Prop where
  fod : R.fod.1 ≤ K.fod.1
  dung : R.dung.1 ≤ K.dung.1
  eats : K.eats.2 ≤ R.eats.2
  gives : R.gives.1 ≤ K.gives.1
  boost : R.boost.1 ≤ K.boost.1
  len : K.seas.length = R.seas.length
  seas : ∀ (i : Nat) (x y : Sn), R.seas[i]? = some x → K.seas[i]? = some y → x.1.1 ≤ y.1.1 ∧ x.2 = y.2 ∧ 0 ≤ x.2
theorem fodBad_wid {R K : Rd} {g : Int} (hg : 0 ≤ g) (he : K.eats.2 ≤ R.eats.2) (hb : R.boost.1 ≤ K.boost.1) : ∀ (l m : List Sn) (a b : Int), a ≤ b → m.length = l.length → (∀ (i : Nat) (x y : Sn), l[i]? = some x → m[i]? = some y → x.1.1 ≤ y.1.1 ∧ x.2 = y.2 ∧ 0 ≤ x.2) → fodBad R g l a = false → fodBad K g m b = false := by
  intro l
  induction l with
  | nil => intro m a b _ hl _ _; have := List.length_eq_zero_iff.1 hl; subst this; rfl
  | cons x l ih =>
    intro m a b hab hl hs hf
    cases m with
    | nil => cases hl
    | cons y m =>
      obtain ⟨h1, h2, h3⟩ := hs 0 x y rfl rfl
      simp only [fodBad, Bool.or_eq_false_iff, decide_eq_false_iff_not] at hf ⊢
      have p1 : g * K.eats.2 ≤ g * R.eats.2 := Int.mul_le_mul_of_nonneg_left he hg
      have p2 : x.2 * R.boost.1 ≤ x.2 * K.boost.1 := Int.mul_le_mul_of_nonneg_left hb h3
      rw [← h2]
      refine ⟨by omega, ih m _ _ (by omega) (by simpa using hl) (fun i u v hu hv => hs (i + 1) u v (by simpa using hu) (by simpa using hv)) hf.2⟩
theorem dungBad_wid {R K : Rd} {g : Int} (hg : 0 ≤ g) (he : R.gives.1 ≤ K.gives.1) : ∀ (l m : List Sn) (a b : Int), a ≤ b → m.length = l.length → (∀ (i : Nat) (x y : Sn), l[i]? = some x → m[i]? = some y → x.1.1 ≤ y.1.1 ∧ x.2 = y.2 ∧ 0 ≤ x.2) → dungBad R g l a = false → dungBad K g m b = false := by
  intro l
  induction l with
  | nil => intro m a b _ hl _ _; have := List.length_eq_zero_iff.1 hl; subst this; rfl
  | cons x l ih =>
    intro m a b hab hl hs hf
    cases m with
    | nil => cases hl
    | cons y m =>
      obtain ⟨h1, h2, h3⟩ := hs 0 x y rfl rfl
      simp only [dungBad, Bool.or_eq_false_iff, decide_eq_false_iff_not] at hf ⊢
      have p1 : g * R.gives.1 ≤ g * K.gives.1 := Int.mul_le_mul_of_nonneg_left he hg
      rw [← h2]
      refine ⟨by omega, ih m _ _ (by omega) (by simpa using hl) (fun i u v hu hv => hs (i + 1) u v (by simpa using hu) (by simpa using hv)) hf.2⟩
theorem run_wid {R K : Rd} {g : Int} (hg : 0 ≤ g) (h : Wid R K) (h0 : (runAll R g).2.2 = 0) : (runAll K g).2.2 = 0 := by
  have h1 := (run_zero R g R.seas 0 (R.fod, R.dung) []).1 h0
  exact (run_zero K g K.seas 0 (K.fod, K.dung) []).2 ⟨fodBad_wid hg h.eats h.boost _ _ _ _ h.fod h.len h.seas h1.1, dungBad_wid hg h.gives _ _ _ _ h.dung h.len h.seas h1.2⟩
/-- The numbers of goats: a wider round has a wider range. -/
theorem goats_wid {R K : Rd} (hR : OkRd R) (hK : OkRd K) (h : Wid R K) : (goatsP R).2 ≠ 0 ∧ (goatsP R).2 = 6 ∨ (goatsP R).2 = 0 ∧ (goatsP K).2 = 0 ∧ (goatsP K).1.1 ≤ (goatsP R).1.1 ∧ (goatsP R).1.2 ≤ (goatsP K).1.2 := by
  obtain ⟨f, e, a1, a2, a3, a4, a5⟩ := goats_spec hR
  obtain ⟨f', e', b1, b2, b3, b4, b5⟩ := goats_spec hK
  by_cases hfe : f = e
  · left; rw [a5, if_pos hfe]; simp
  · right
    have w1 := (b4 f.toNat (by omega)).1 (run_wid (by omega) h ((a4 f.toNat (by omega)).2 (by omega)))
    have w2 := (b4 (e - 1).toNat (by omega)).1 (run_wid (by omega) h ((a4 (e - 1).toNat (by omega)).2 (by omega)))
    rw [a5, b5, if_neg hfe, if_neg (by omega)]
    refine ⟨rfl, rfl, ?_, ?_⟩ <;> dsimp only <;> omega
/-- The round K knows more than the round R: every bound lies within. -/
def Ins (a b : Sp) : Prop := b.1 ≤ a.1 ∧ a.2 ≤ b.2
structure Knows (R K : Rd) : Prop where
  fod : Ins K.fod R.fod
  dung : Ins K.dung R.dung
  eats : Ins K.eats R.eats
  gives : Ins K.gives R.gives
  boost : Ins K.boost R.boost
  eo : K.eats.1 ≤ K.eats.2
  len : K.seas.length = R.seas.length
  seas : ∀ (i : Nat) (x y : Sn), R.seas[i]? = some x → K.seas[i]? = some y → Ins y.1 x.1 ∧ x.2 = y.2 ∧ 0 ≤ x.2
theorem Knows.wid {R K : Rd} (h : Knows R K) : Wid R K :=
  ⟨h.fod.1, h.dung.1, h.eats.2, h.gives.1, h.boost.1, h.len, fun i x y hx hy => ⟨(h.seas i x y hx hy).1.1, (h.seas i x y hx hy).2⟩⟩
theorem stN_ins {R K : Rd} {g : Int} (hg : 0 ≤ g) (h : Knows R K) : ∀ k, k ≤ R.seas.length → Ins (stN K g k).1 (stN R g k).1 ∧ Ins (stN K g k).2 (stN R g k).2 := by
  intro k
  induction k with
  | zero => intro _; exact ⟨h.fod, h.dung⟩
  | succ k ih =>
    intro hk
    obtain ⟨x, hx⟩ : ∃ x, R.seas[k]? = some x := ⟨_, List.getElem?_eq_getElem (by omega)⟩
    obtain ⟨y, hy⟩ : ∃ y, K.seas[k]? = some y := ⟨_, List.getElem?_eq_getElem (by have := h.len; omega)⟩
    obtain ⟨⟨a1, a2⟩, ⟨a3, a4⟩⟩ := ih (by omega)
    obtain ⟨⟨b1, b2⟩, b3, b4⟩ := h.seas k x y hx hy
    have e1 : stN R g (k + 1) = nextR R g (stN R g k) x := by rw [stN, hx]
    have e2 : stN K g (k + 1) = nextR K g (stN K g k) y := by rw [stN, hy]
    rw [e1, e2]
    have p1 : x.2 * R.boost.1 ≤ x.2 * K.boost.1 := Int.mul_le_mul_of_nonneg_left h.boost.1 b4
    have p2 : x.2 * K.boost.2 ≤ x.2 * R.boost.2 := Int.mul_le_mul_of_nonneg_left h.boost.2 b4
    have p3 : g * R.eats.1 ≤ g * K.eats.1 := Int.mul_le_mul_of_nonneg_left h.eats.1 hg
    have p4 : g * K.eats.2 ≤ g * R.eats.2 := Int.mul_le_mul_of_nonneg_left h.eats.2 hg
    have p5 : g * R.gives.1 ≤ g * K.gives.1 := Int.mul_le_mul_of_nonneg_left h.gives.1 hg
    have p6 : g * K.gives.2 ≤ g * R.gives.2 := Int.mul_le_mul_of_nonneg_left h.gives.2 hg
    simp only [Ins, nextR, ← b3]
    refine ⟨⟨?_, ?_⟩, ?_, ?_⟩ <;> omega
end Go.Proofs.Ytccgplomnjpniaa
