/- Walks: dates that are cut, and what they are worth. -/
import Derived.Test.YtccgplomnjpniaaE10
import Derived.Test.YtccgplomnjpniaaEng14
import Derived.Test.YtccgplomnjpniaaDS
namespace Go.Proofs.Ytccgplomnjpniaa
open Go Go.Eng Go.RowKit Go.Proofs
set_option maxHeartbeats 1000000
set_option maxRecDepth 10000
attribute [local irreducible] TL TC TQ

structure Yd where
  g0 : Sp
  g1 : Sp
  g2 : Sp
  taken : Sp
  fallen : Sp
  left : Sp
  worth : Sp
def encYd (y : Yd) : List Value := [.int .i64 y.g0.1, .int .i64 y.g0.2, .int .i64 y.g1.1, .int .i64 y.g1.2, .int .i64 y.g2.1, .int .i64 y.g2.2, .int .i64 y.taken.1, .int .i64 y.taken.2, .int .i64 y.fallen.1, .int .i64 y.fallen.2, .int .i64 y.left.1, .int .i64 y.left.2, .int .i64 y.worth.1, .int .i64 y.worth.2]
def zeroYd : Yd := ⟨(0, 0), (0, 0), (0, 0), (0, 0), (0, 0), (0, 0), (0, 0)⟩
/-- All numbers lie from 0 to n. -/
def InS (s : Sp) (n : Int) : Prop := (0 ≤ s.1 ∧ s.1 ≤ n) ∧ (0 ≤ s.2 ∧ s.2 ≤ n)
structure YB (y : Yd) (n : Int) : Prop where
  g0 : InS y.g0 n
  g1 : InS y.g1 n
  g2 : InS y.g2 n
  taken : InS y.taken n
  fallen : InS y.fallen n
  left : InS y.left n
  worth : InS y.worth n
def addSp (a b : Sp) : Sp := (a.1 + b.1, a.2 + b.2)
/-- A grade's span grows. -/
def plusG (s left : Sp) (one : Bool) : Sp := (if one then s.1 + left.1 else s.1, s.2 + left.2)
def addG (y : Yd) (i : Nat) (left : Sp) (one : Bool) : Yd := match i with
  | 0 => { y with g0 := plusG y.g0 left one }
  | 1 => { y with g1 := plusG y.g1 left one }
  | _ => { y with g2 := plusG y.g2 left one }
def addGs (y : Yd) (a : Nat) (left : Sp) (one : Bool) : Nat → Yd
  | 0 => y
  | k + 1 => addG (addGs y a left one k) (a + k) left one
def gA (f : Ft) (d : Int) : Nat := (gLo f d).toNat
def gN (f : Ft) (d : Int) : Nat := (gHi f d - gLo f d + 1).toNat
def prL (f : Ft) : List Int := [f.p0, f.p1, f.p2]
/-- The prices of the grades that dates may have after some days. -/
def someP (f : Ft) (d : Int) : List Int := ((prL f).drop (gA f d)).take (gN f d)
def pickR (f : Ft) (y : Yd) (left : Sp) (d : Int) : Yd :=
  let y' := addGs y (gA f d) left (decide (gN f d = 1)) (gN f d)
  { y' with worth := addSp y'.worth (minL (someP f d) * left.1, maxL (someP f d) * left.2) }

theorem gradeR_mono (f : Ft) (hf : f.half ≤ f.soft) {m n : Int} (h : m ≤ n) : gradeR f n ≤ gradeR f m := by
  unfold gradeR
  split <;> split <;> (try split) <;> (try split) <;> omega
theorem g_range {f : Ft} {d : Int} (hf : OkFt f) (hb : DayB f d) (hd : 0 ≤ d) : ∃ a n : Nat, gLo f d = (a : Int) ∧ gHi f d = (a : Int) + n - 1 ∧ 1 ≤ n ∧ a + n ≤ 3 ∧ gA f d = a ∧ gN f d = n := by
  have h1 : gLo f d ≤ gHi f d := by
    refine gradeR_mono f hf.2.2.2.2.1 ?_
    have := hf.1
    have h2 := hf.2.1
    simp only [Ord] at this h2
    have : d * f.dry.1 ≤ d * f.dry.2 := Int.mul_le_mul_of_nonneg_left h2.2.1 hd
    omega
  have h2 := gradeR_range f (max (f.wet.2 - d * f.dry.1) 0)
  have h3 := gradeR_range f (max (f.wet.1 - d * f.dry.2) 0)
  change gLo f d = 0 ∨ gLo f d = 1 ∨ gLo f d = 2 at h2
  change gHi f d = 0 ∨ gHi f d = 1 ∨ gHi f d = 2 at h3
  refine ⟨(gLo f d).toNat, (gHi f d - gLo f d + 1).toNat, by omega, by omega, by omega, by omega, rfl, rfl⟩
theorem someP_ne {f : Ft} {d : Int} (hf : OkFt f) (hb : DayB f d) (hd : 0 ≤ d) : someP f d ≠ [] ∧ (someP f d).length = gN f d := by
  obtain ⟨a, n, _, _, h1, h2, h3, h4⟩ := g_range hf hb hd
  have : (someP f d).length = n := by simp [someP, prL, h3, h4]; omega
  exact ⟨fun h => by rw [h] at this; simp at this; omega, by rw [this, h4]⟩
theorem prL_in {f : Ft} (hf : OkFt f) : ∀ x ∈ prL f, 0 ≤ x ∧ x ≤ 1000 := by
  obtain ⟨_, _, _, _, _, _, h1, h2, h3⟩ := hf
  simp only [In] at h1 h2 h3
  simp [prL, h1, h2, h3]
theorem fold_in {g : Int → Int → Int} (hg : ∀ a b, g a b = a ∨ g a b = b) {lo hi : Int} : ∀ (l : List Int) (x : Int), (∀ y ∈ l, lo ≤ y ∧ y ≤ hi) → lo ≤ x ∧ x ≤ hi → lo ≤ l.foldl g x ∧ l.foldl g x ≤ hi := by
  intro l
  induction l with
  | nil => intro x _ h; exact h
  | cons y l ih =>
    intro x h hx
    refine ih _ (fun z hz => h z (List.mem_cons_of_mem _ hz)) ?_
    rcases hg x y with e | e <;> rw [e]
    · exact hx
    · exact h y List.mem_cons_self
theorem minL_in {lo hi : Int} {l : List Int} (hne : l ≠ []) (h : ∀ y ∈ l, lo ≤ y ∧ y ≤ hi) : lo ≤ minL l ∧ minL l ≤ hi := by
  cases l with
  | nil => exact absurd rfl hne
  | cons x l => exact fold_in (fun a b => by omega) l x (fun y hy => h y (List.mem_cons_of_mem _ hy)) (h x List.mem_cons_self)
theorem maxL_in {lo hi : Int} {l : List Int} (hne : l ≠ []) (h : ∀ y ∈ l, lo ≤ y ∧ y ≤ hi) : lo ≤ maxL l ∧ maxL l ≤ hi := by
  cases l with
  | nil => exact absurd rfl hne
  | cons x l => exact fold_in (fun a b => by omega) l x (fun y hy => h y (List.mem_cons_of_mem _ hy)) (h x List.mem_cons_self)
theorem someP_in {f : Ft} (hf : OkFt f) (d : Int) : ∀ x ∈ someP f d, 0 ≤ x ∧ x ≤ 1000 := fun x hx => prL_in hf x (List.mem_of_mem_drop (List.mem_of_mem_take hx))
theorem worthB {f : Ft} {d : Int} (hf : OkFt f) (hb : DayB f d) (hd : 0 ≤ d) {left : Sp} (hl : InS left 100000) : (0 ≤ minL (someP f d) * left.1 ∧ minL (someP f d) * left.1 ≤ 100000000) ∧ (0 ≤ maxL (someP f d) * left.2 ∧ maxL (someP f d) * left.2 ≤ 100000000) := by
  obtain ⟨hne, _⟩ := someP_ne hf hb hd
  have h1 := minL_in hne (someP_in hf d)
  have h2 := maxL_in hne (someP_in hf d)
  exact ⟨mulB h1.1 h1.2 hl.1.1 hl.1.2, mulB h2.1 h2.2 hl.2.1 hl.2.2⟩
theorem plusG_B {s left : Sp} {one : Bool} {n m k : Int} (h : InS s n) (hl : InS left m) (hk : n + m ≤ k) : InS (plusG s left one) k := by
  simp only [InS, plusG] at *
  refine ⟨?_, ?_⟩
  · cases one <;> simp <;> omega
  · omega
theorem InS.mono {s : Sp} {n m : Int} (h : InS s n) (hn : n ≤ m) : InS s m := ⟨⟨h.1.1, by have := h.1.2; omega⟩, ⟨h.2.1, by have := h.2.2; omega⟩⟩
theorem YB.mono {y : Yd} {n m : Int} (h : YB y n) (hn : n ≤ m) : YB y m := ⟨h.1.mono hn, h.2.mono hn, h.3.mono hn, h.4.mono hn, h.5.mono hn, h.6.mono hn, h.7.mono hn⟩
theorem addG_B {y : Yd} {i : Nat} {left : Sp} {one : Bool} {n : Int} (h : YB y n) (hl : InS left 100000) : YB (addG y i left one) (n + 100000) := by
  have h' := h.mono (show n ≤ n + 100000 by omega)
  unfold addG
  split
  · exact { h' with g0 := plusG_B h.g0 hl (Int.le_refl _) }
  · exact { h' with g1 := plusG_B h.g1 hl (Int.le_refl _) }
  · exact { h' with g2 := plusG_B h.g2 hl (Int.le_refl _) }
theorem addGs_B {y : Yd} {a : Nat} {left : Sp} {one : Bool} {n : Int} (h : YB y n) (hl : InS left 100000) : ∀ k : Nat, YB (addGs y a left one k) (n + 100000 * k) := by
  intro k
  induction k with
  | zero => simpa [addGs] using h
  | succ k ih => exact (addG_B ih hl).mono (by omega)
theorem addGs_worth {y : Yd} {a : Nat} {left : Sp} {one : Bool} : ∀ k : Nat, (addGs y a left one k).worth = y.worth := by
  intro k
  induction k with
  | zero => rfl
  | succ k ih => rw [← ih, addGs]; unfold addG; split <;> rfl
theorem pickR_B {f : Ft} {d : Int} {y : Yd} {left : Sp} {n : Int} (hf : OkFt f) (hb : DayB f d) (hd : 0 ≤ d) (h : YB y n) (hl : InS left 100000) : YB (pickR f y left d) (n + 100000000) := by
  obtain ⟨a, m, _, _, h1, h2, h3, h4⟩ := g_range hf hb hd
  have hy := (addGs_B (a := gA f d) (one := decide (gN f d = 1)) h hl (gN f d)).mono (show n + 100000 * (gN f d : Int) ≤ n + 100000000 by omega)
  have hw := worthB hf hb hd hl
  refine { hy with worth := ?_ }
  simp only [pickR]
  rw [addGs_worth]
  have := h.worth
  simp only [InS, addSp] at *
  omega
end Go.Proofs.Ytccgplomnjpniaa
