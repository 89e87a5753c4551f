/- Plain law: a bunch of which all is known. -/
import Derived.Test.YtccgplomnjpniaaE32
namespace Go.Proofs.Ytccgplomnjpniaa
open Go Go.Eng Go.RowKit Go.Proofs

def endS (least : Bool) (_ : Nat) (s : Sp) : Sp := if least = true then (s.1, s.1) else (s.2, s.2)
def exactB (b : Bn) (least few : Bool) : Bn := ⟨b.ripe.mapIdx (endS least), if few = true then (b.birds.1, b.birds.1) else (b.birds.2, b.birds.2), b.cov⟩
/-- How many ripen in the first k days. -/
def sumN (least : Bool) (l : List Sp) : Nat → Int
  | 0 => 0
  | k + 1 => sumN least l k + (endS least k (l.getD k (0, 0))).1
structure Rch (least few : Bool) (y z : Yd) (all : Int) : Prop where
  t : z.taken.1 = z.taken.2
  fa : z.fallen.1 = z.fallen.2
  le : z.left.1 = z.left.2
  lo : z.g0.1 + z.g1.1 + z.g2.1 + z.taken.1 + z.fallen.1 + z.left.1 ≤ all
  hi : all ≤ z.g0.2 + z.g1.2 + z.g2.2 + z.taken.2 + z.fallen.2 + z.left.2
  w1 : least = true → few = false → z.worth.1 = y.worth.1 ∧ z.fallen.1 = y.fallen.1 ∧ z.left.1 = y.left.1
  w2 : least = false → few = true → z.worth.2 = y.worth.2 ∧ z.fallen.2 = y.fallen.2 ∧ z.left.2 = y.left.2
  k1 : least = true → few = true → z.taken.1 = y.taken.1
  k2 : least = false → few = false → z.taken.2 = y.taken.2
theorem exact_ok {b : Bn} (hb : OkBn b) (least few : Bool) : OkBn (exactB b least few) := by
  obtain ⟨h1, h2, h3⟩ := hb
  refine ⟨by simp only [exactB, List.length_mapIdx]; exact h1, fun s hs => ?_, ?_⟩
  · obtain ⟨i, hi⟩ := List.getElem?_of_mem hs
    simp only [exactB, List.getElem?_mapIdx, Option.map_eq_some_iff] at hi
    obtain ⟨y, hy, rfl⟩ := hi
    have := h2 y (List.mem_of_getElem? hy)
    simp only [Ord, endS] at *
    split <;> omega
  · simp only [Ord, exactB] at *
    split <;> dsimp only <;> omega
theorem pick_sum {f : Ft} (hf : OkFt f) {d : Int} (hd : In d 0 30) (y : Yd) {n : Int} (hn : 0 ≤ n) :
    (pickR f y (n, n) d).g0.1 + (pickR f y (n, n) d).g1.1 + (pickR f y (n, n) d).g2.1 ≤ y.g0.1 + y.g1.1 + y.g2.1 + n ∧ y.g0.2 + y.g1.2 + y.g2.2 + n ≤ (pickR f y (n, n) d).g0.2 + (pickR f y (n, n) d).g1.2 + (pickR f y (n, n) d).g2.2 := by
  obtain ⟨a0, a1, a2, _⟩ := pick_form hf hd y (n, n)
  have k2 := gLo_hi hf hd
  rw [a0, a1, a2]
  generalize gLo f d = p at k2
  generalize gHi f d = q at k2
  have h : (p = 0 ∧ q = 0) ∨ (p = 0 ∧ q = 1) ∨ (p = 0 ∧ q = 2) ∨ (p = 1 ∧ q = 1) ∨ (p = 1 ∧ q = 2) ∨ (p = 2 ∧ q = 2) := by omega
  rcases h with ⟨rfl, rfl⟩ | ⟨rfl, rfl⟩ | ⟨rfl, rfl⟩ | ⟨rfl, rfl⟩ | ⟨rfl, rfl⟩ | ⟨rfl, rfl⟩ <;> simp <;> omega
theorem reached {f : Ft} {b : Bn} {l : List Int} (hf : OkFt f) (hb : OkBn b) (least few : Bool) : ∀ n, n ≤ b.ripe.length → Rch least few (cutK f b l n) (cutK f (exactB b least few) l n) (sumN least b.ripe n) := by
  intro n
  induction n with
  | zero => intro _; simp only [cutK, sumN, zeroYd]; exact ⟨rfl, rfl, rfl, by simp, by simp, fun _ _ => ⟨rfl, rfl, rfl⟩, fun _ _ => ⟨rfl, rfl, rfl⟩, fun _ _ => rfl, fun _ _ => rfl⟩
  | succ n ih =>
    intro hn
    obtain ⟨i1, i2, i3, i4, i5, i6, i7, i8, i9⟩ := ih (by omega)
    have hlen : b.ripe.length ≤ 12 := by have := hb.1; simp only [In] at this; omega
    obtain ⟨x, hx⟩ : ∃ x, b.ripe[n]? = some x := ⟨_, List.getElem?_eq_getElem (by omega)⟩
    have hox := hb.2.1 x (List.mem_of_getElem? hx)
    have hob := hb.2.2
    have ex : b.ripe.getD n (0, 0) = x := by rw [List.getD_eq_getElem?_getD, hx]; rfl
    have ey : (exactB b least few).ripe.getD n (0, 0) = endS least n x := by
      rw [List.getD_eq_getElem?_getD]; simp only [exactB, List.getElem?_mapIdx, hx]; rfl
    have hle : (exactB b least few).ripe.length = b.ripe.length := by simp [exactB]
    have hfd := fate_days (l := l) hf hlen (show n < b.ripe.length by omega)
    have hfc := fate_cases (l := l) hf hlen (show n < b.ripe.length by omega)
    simp only [cutK, sumN, ex, ey]
    unfold stepY
    rw [hle]
    generalize fateR f b.ripe.length l n = q at hfd hfc
    generalize cutK f b l n = y at i1 i2 i3 i4 i5 i6 i7 i8 i9 ⊢
    generalize cutK f (exactB b least few) l n = z at i1 i2 i3 i4 i5 i6 i7 i8 i9 ⊢
    generalize sumN least b.ripe n = sm at i4 i5 ⊢
    obtain ⟨p1, p2⟩ := bLo_hi hb hfd.1
    simp only [Ord] at hox hob
    -- the birds' number, and what is left
    obtain ⟨v, hv0, hvl, hvh, hv1, hv2⟩ : ∃ v, 0 ≤ v ∧ bLo (exactB b least few) q.2 = v ∧ bHi (exactB b least few) q.2 = v ∧ (few = true → v = bLo b q.2) ∧ (few = false → v = bHi b q.2) := by
      cases few with
      | true => exact ⟨bLo b q.2, p1, rfl, rfl, fun _ => rfl, fun h => by cases h⟩
      | false => exact ⟨bHi b q.2, by omega, rfl, rfl, (fun h => by cases h), fun _ => rfl⟩
    obtain ⟨m, hm0, hme, hm1, hm2⟩ : ∃ m, 0 ≤ m ∧ endS least n x = (m, m) ∧ (least = true → m = x.1) ∧ (least = false → m = x.2) := by
      cases least with
      | true => exact ⟨x.1, hox.1, rfl, fun _ => rfl, fun h => by cases h⟩
      | false => exact ⟨x.2, by omega, rfl, (fun h => by cases h), fun _ => rfl⟩
    have et : takenR (exactB b least few) (endS least n x) q.2 = (min m v, min m v) := by rw [hme]; simp only [takenR, hvl, hvh]
    have el : leftR (exactB b least few) (endS least n x) q.2 = (max (m - v) 0, max (m - v) 0) := by rw [hme]; simp only [leftR, hvl, hvh]
    dsimp only
    rw [et, el, hme]
    dsimp only
    have hsum : min m v + max (m - v) 0 = m := by omega
    have hu0 : 0 ≤ max (m - v) 0 := by omega
    have c1 : least = true → few = false → (leftR b x q.2).1 = max (m - v) 0 := fun h1 h2 => by simp only [leftR]; rw [hm1 h1, hv2 h2]
    have c2 : least = false → few = true → (leftR b x q.2).2 = max (m - v) 0 := fun h1 h2 => by simp only [leftR]; rw [hm2 h1, hv1 h2]
    have c3 : least = true → few = true → (takenR b x q.2).1 = min m v := fun h1 h2 => by simp only [takenR]; rw [hm1 h1, hv1 h2]
    have c4 : least = false → few = false → (takenR b x q.2).2 = min m v := fun h1 h2 => by simp only [takenR]; rw [hm2 h1, hv2 h2]
    generalize max (m - v) 0 = u at *
    generalize min m v = t at *
    generalize leftR b x q.2 = lb at *
    generalize takenR b x q.2 = tb at *
    split
    · rcases hfc with hfc | hfc
      · obtain ⟨a0, a1, a2, a3, a4, a5, a6⟩ := pick_form hf hfc.2 { y with taken := addSp y.taken tb } lb
        obtain ⟨b0, b1, b2, b3, b4, b5, b6⟩ := pick_form hf hfc.2 { z with taken := addSp z.taken (t, t) } (u, u)
        obtain ⟨s1, s2⟩ := pick_sum hf hfc.2 { z with taken := addSp z.taken (t, t) } hu0
        generalize pickR f { y with taken := addSp y.taken tb } lb q.2 = Y at *
        generalize pickR f { z with taken := addSp z.taken (t, t) } (u, u) q.2 = Z at *
        simp only [addSp] at *
        refine ⟨by rw [b3]; dsimp only; omega, by rw [b4]; exact i2, by rw [b5]; exact i3, by rw [b3, b4, b5]; dsimp only; omega, by rw [b3, b4, b5]; dsimp only; omega, fun h1 h2 => ?_, fun h1 h2 => ?_, fun h1 h2 => ?_, fun h1 h2 => ?_⟩
        · rw [a4, a5, a6, b4, b5, b6]; dsimp only; rw [c1 h1 h2, (i6 h1 h2).1]; exact ⟨rfl, (i6 h1 h2).2⟩
        · rw [a4, a5, a6, b4, b5, b6]; dsimp only; rw [c2 h1 h2, (i7 h1 h2).1]; exact ⟨rfl, (i7 h1 h2).2⟩
        · rw [a3, b3]; dsimp only; rw [c3 h1 h2, i8 h1 h2]
        · rw [a3, b3]; dsimp only; rw [c4 h1 h2, i9 h1 h2]
      · omega
    · split
      · refine ⟨?_, ?_, i3, ?_, ?_, fun h1 h2 => ?_, fun h1 h2 => ?_, fun h1 h2 => ?_, fun h1 h2 => ?_⟩ <;> simp only [addSp] <;> (try omega)
        · exact ⟨(i6 h1 h2).1, by rw [c1 h1 h2, (i6 h1 h2).2.1], (i6 h1 h2).2.2⟩
        · exact ⟨(i7 h1 h2).1, by rw [c2 h1 h2, (i7 h1 h2).2.1], (i7 h1 h2).2.2⟩
        · rw [c3 h1 h2, i8 h1 h2]
        · rw [c4 h1 h2, i9 h1 h2]
      · refine ⟨?_, i2, ?_, ?_, ?_, fun h1 h2 => ?_, fun h1 h2 => ?_, fun h1 h2 => ?_, fun h1 h2 => ?_⟩ <;> simp only [addSp] <;> (try omega)
        · exact ⟨(i6 h1 h2).1, (i6 h1 h2).2.1, by rw [c1 h1 h2, (i6 h1 h2).2.2]⟩
        · exact ⟨(i7 h1 h2).1, (i7 h1 h2).2.1, by rw [c2 h1 h2, (i7 h1 h2).2.2]⟩
        · rw [c3 h1 h2, i8 h1 h2]
        · rw [c4 h1 h2, i9 h1 h2]
end Go.Proofs.Ytccgplomnjpniaa
