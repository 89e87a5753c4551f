/- What a round does, as plain Lean. -/
import Derived.Test.YtccgplomnjpniaaD0
namespace Go.Proofs.Ytccgplomnjpniaa
open Go Go.Eng Go.RowKit Go.Proofs

/-- One season: an error, or what there is after it. -/
def nextR (R : Rd) (g : Int) (s : St) (x : Sn) : St :=
  ((s.1.1 + x.1.1 + x.2 * R.boost.1 / 1000 - g * R.eats.2, s.1.2 + x.1.2 + (x.2 * R.boost.2 + 999) / 1000 - g * R.eats.1), (s.2.1 - x.2 + g * R.gives.1, s.2.2 - x.2 + g * R.gives.2))
def stepR (R : Rd) (g : Int) (s : St) (x : Sn) : Int ⊕ St :=
  if s.2.1 < x.2 then .inl 85 else
  if s.1.1 + x.1.1 + x.2 * R.boost.1 / 1000 < g * R.eats.2 then .inl 84 else
  .inr (nextR R g s x)
def runR (R : Rd) (g : Int) : List Sn → Nat → St → List St → List St × Nat × Int
  | [], _, _, acc => (acc, 0, 0)
  | x :: l, i, s, acc => match stepR R g s x with
    | .inl e => ([], i, e)
    | .inr s' => runR R g l (i + 1) s' (acc ++ [s'])
def runAll (R : Rd) (g : Int) : List St × Nat × Int := runR R g R.seas 0 (R.fod, R.dung) []

def goR (R : Rd) (g : Int) : List St × Nat × Int := if ¬ OkRd R then ([], 0, 83) else if ¬ In g 0 1000 then ([], 0, 2) else runAll R g
def scanR (R : Rd) : Nat → Sp
  | 0 => (-1, -1)
  | n + 1 => if (runAll R n).2.2 = 0 then (if (scanR R n).1 < 0 then (n : Int) else (scanR R n).1, (n : Int)) else scanR R n
def goatsR (R : Rd) : Sp × Int := if ¬ OkRd R then ((0, 0), 83) else if (scanR R 1001).1 < 0 then ((0, 0), 6) else (scanR R 1001, 0)

/-- A round that may be run: as valid, but there may be more dung. -/
def OkRun (R : Rd) : Prop := Ord R.fod 0 1000000 ∧ Ord R.dung 0 20000000 ∧ Ord R.eats 0 1000 ∧ Ord R.gives 0 1000 ∧ Ord R.boost 0 1000 ∧ R.seas.length ≤ 20 ∧ ∀ x ∈ R.seas, Ord x.1 0 1000000 ∧ In x.2 0 1000000
theorem OkRd.run {R : Rd} (h : OkRd R) : OkRun R := by
  obtain ⟨h1, h2, h3⟩ := h
  exact ⟨h1, ⟨h2.1, h2.2.1, by have := h2.2.2; omega⟩, h3⟩
/-- What there is stays small. -/
def Bd (i : Nat) (s : St) : Prop := (-20000000 - 4000000 * (i : Int) ≤ s.1.1 ∧ s.1.1 ≤ 20000000 + 4000000 * (i : Int)) ∧ (-20000000 - 4000000 * (i : Int) ≤ s.1.2 ∧ s.1.2 ≤ 20000000 + 4000000 * (i : Int)) ∧
  (-20000000 - 4000000 * (i : Int) ≤ s.2.1 ∧ s.2.1 ≤ 20000000 + 4000000 * (i : Int)) ∧ (-20000000 - 4000000 * (i : Int) ≤ s.2.2 ∧ s.2.2 ≤ 20000000 + 4000000 * (i : Int))
theorem mulB {a b A B : Int} (ha : 0 ≤ a) (ha' : a ≤ A) (hb : 0 ≤ b) (hb' : b ≤ B) : 0 ≤ a * b ∧ a * b ≤ A * B :=
  ⟨Int.mul_nonneg ha hb, Int.mul_le_mul ha' hb' hb (by omega)⟩
/-- The products of a season are small. -/
structure Prods (R : Rd) (g : Int) (x : Sn) : Prop where
  b1 : 0 ≤ x.2 * R.boost.1 ∧ x.2 * R.boost.1 ≤ 1000000000
  b2 : 0 ≤ x.2 * R.boost.2 ∧ x.2 * R.boost.2 ≤ 1000000000
  e1 : 0 ≤ g * R.eats.1 ∧ g * R.eats.1 ≤ 1000000
  e2 : 0 ≤ g * R.eats.2 ∧ g * R.eats.2 ≤ 1000000
  g1 : 0 ≤ g * R.gives.1 ∧ g * R.gives.1 ≤ 1000000
  g2 : 0 ≤ g * R.gives.2 ∧ g * R.gives.2 ≤ 1000000
  gr1 : 0 ≤ x.1.1 ∧ x.1.1 ≤ 1000000
  gr2 : 0 ≤ x.1.2 ∧ x.1.2 ≤ 1000000
  sp : 0 ≤ x.2 ∧ x.2 ≤ 1000000
theorem prods {R : Rd} {g : Int} {x : Sn} (h : OkRun R) (hg : In g 0 1000) (hx : x ∈ R.seas) : Prods R g x := by
  obtain ⟨h1, h2, h3, h4, h5, h6, h7⟩ := h
  obtain ⟨h8, h9⟩ := h7 x hx
  simp only [Ord, In] at *
  have b1 := mulB h9.1 h9.2 h5.1 (Int.le_trans h5.2.1 h5.2.2)
  have b2 := mulB h9.1 h9.2 (Int.le_trans h5.1 h5.2.1) h5.2.2
  have e1 := mulB hg.1 hg.2 h3.1 (Int.le_trans h3.2.1 h3.2.2)
  have e2 := mulB hg.1 hg.2 (Int.le_trans h3.1 h3.2.1) h3.2.2
  have g1 := mulB hg.1 hg.2 h4.1 (Int.le_trans h4.2.1 h4.2.2)
  have g2 := mulB hg.1 hg.2 (Int.le_trans h4.1 h4.2.1) h4.2.2
  exact ⟨by omega, by omega, by omega, by omega, by omega, by omega, by omega, by omega, by omega⟩
theorem Bd.step {R : Rd} {g : Int} {x : Sn} {s s' : St} {i : Nat} (h : Bd i s) (hp : Prods R g x) (hs : stepR R g s x = .inr s') : Bd (i + 1) s' := by
  unfold stepR at hs
  split at hs
  · cases hs
  · split at hs
    · cases hs
    · cases hs
      unfold nextR
      obtain ⟨b1, b2, e1, e2, g1, g2, gr1, gr2, sp⟩ := hp
      simp only [Bd] at *
      refine ⟨?_, ?_, ?_, ?_⟩ <;> constructor <;> omega
end Go.Proofs.Ytccgplomnjpniaa
