/- Walks: slices.Min, slices.Max; what birds take. -/
import Derived.Test.YtccgplomnjpniaaE9
import Derived.Test.YtccgplomnjpniaaEngC
import Derived.Test.YtccgplomnjpniaaEngC
import Derived.Test.YtccgplomnjpniaaDS
import Derived.Test.YtccgplomnjpniaaD9
namespace Go.Proofs.Ytccgplomnjpniaa
open Go Go.Eng Go.RowKit Go.Proofs
set_option maxHeartbeats 1000000
set_option maxRecDepth 10000
attribute [local irreducible] TL TC TQ

def minL : List Int → Int
  | [] => 0
  | x :: l => l.foldl min x
def maxL : List Int → Int
  | [] => 0
  | x :: l => l.foldl max x
theorem fold_take {f : Int → Int → Int} (x : Int) : ∀ (l : List Int) (k : Nat) (y : Int), l[k]? = some y → (l.take (k + 1)).foldl f x = f ((l.take k).foldl f x) y := by
  intro l k y h
  rw [List.take_add_one, h, List.foldl_append]; rfl

theorem c95 (l : List Int) (ao : Option Addr) (c : Nat) (hl : l.length ≤ 1000000) (hne : l ≠ []) (w : World) (ha : Sl w 1 encI ao l) : Calls Try.prog 95 #[.slice ao l.length c] w (RetV w (.int .i64 (minL l))) := by
  obtain ⟨x0, l0, rfl⟩ : ∃ x l', l = x :: l' := by cases l with
    | nil => exact absurd rfl hne
    | cons x l => exact ⟨x, l, rfl⟩
  simp only [List.length_cons] at hl
  refine enter (args := [.slice ao (x0 :: l0).length c]) Try.func95 rfl Try.ntmps95 rfl (SH.refl _) ?_
  repeat' (first | (refine TL_lss_f rfl rfl rfl (by simp only [List.length_cons]; omega) ?_) | refine r1 ?_ | (apply TL_box; exact rfl; exact rfl; exact rfl; intro _ _) | (apply TL_alloc; exact rfl; intro _ _) | (apply TL_buildSlice; exact rfl; exact rfl; exact rfl; exact rfl; exact rfl; intro _ _))
  refine TL_index 0 rfl rfl rfl (fun w h => h.sl ha) rfl (by simp) (Nat.le_refl _) ?_
  refine TL_load_el1 (u := x0) rfl rfl (fun w h => h.sl ha) rfl rfl ?_
  repeat' (first | refine rn ?_ | (apply TL_box; exact rfl; exact rfl; exact rfl; intro _ _) | (apply TL_alloc; exact rfl; intro _ _) | (apply TL_buildSlice; exact rfl; exact rfl; exact rfl; exact rfl; exact rfl; intro _ _))
  refine TC_loop (σ := Nat) (fun k => k ≤ l0.length) (fun k => [(0, .slice ao (x0 :: l0).length c), (3, .int .i64 ((l0.take k).foldl min x0)), (4, .int .i64 ((k : Int) + 1))]) (fun _ => []) (fun k => l0.length - k) 0 (Nat.zero_le _) sb (fun w h => h) (fun k hk => ?_)
  repeat' (first | refine rn ?_ | (apply TL_box; exact rfl; exact rfl; exact rfl; intro _ _) | (apply TL_alloc; exact rfl; intro _ _) | (apply TL_buildSlice; exact rfl; exact rfl; exact rfl; exact rfl; exact rfl; intro _ _))
  refine TC_cond_dec rfl (fun h1 => ?_) (fun h1 => ?_)
  · simp only [List.length_cons] at h1
    have hlt : k < l0.length := by omega
    obtain ⟨y, hy⟩ : ∃ y, l0[k]? = some y := ⟨_, List.getElem?_eq_getElem hlt⟩
    repeat' (first | refine rn ?_ | (apply TL_box; exact rfl; exact rfl; exact rfl; intro _ _) | (apply TL_alloc; exact rfl; intro _ _) | (apply TL_buildSlice; exact rfl; exact rfl; exact rfl; exact rfl; exact rfl; intro _ _))
    refine TL_index (k + 1) rfl rfl rfl (fun w h => h.sl ha) (by omega) (by simp; omega) (Nat.le_refl _) ?_
    refine TL_load_el1 (u := y) rfl rfl (fun w h => h.sl ha) (by simpa using hy) rfl ?_
    repeat' (first | refine rn ?_ | (apply TL_box; exact rfl; exact rfl; exact rfl; intro _ _) | (apply TL_alloc; exact rfl; intro _ _) | (apply TL_buildSlice; exact rfl; exact rfl; exact rfl; exact rfl; exact rfl; intro _ _))
    have e := fold_take (f := min) x0 l0 k y hy
    refine TQ_round (k + 1) hlt (by omega) (Sub.cons rfl (Sub.cons (by rw [e]; rfl) (Sub.cons rfl (Sub.nil _)))) (fun w h => h)
  · simp only [List.length_cons] at h1
    have hk2 : k = l0.length := by omega
    subst hk2
    repeat' (first | refine rn ?_ | (apply TL_box; exact rfl; exact rfl; exact rfl; intro _ _) | (apply TL_alloc; exact rfl; intro _ _) | (apply TL_buildSlice; exact rfl; exact rfl; exact rfl; exact rfl; exact rfl; intro _ _))
    exact TQ_ret1 Try.results95 (RV.tmp rfl) (fun w' hs => ⟨by rw [List.take_length]; rfl, hs.below⟩)
theorem c96 (l : List Int) (ao : Option Addr) (c : Nat) (hl : l.length ≤ 1000000) (hne : l ≠ []) (w : World) (ha : Sl w 1 encI ao l) : Calls Try.prog 96 #[.slice ao l.length c] w (RetV w (.int .i64 (maxL l))) := by
  obtain ⟨x0, l0, rfl⟩ : ∃ x l', l = x :: l' := by cases l with
    | nil => exact absurd rfl hne
    | cons x l => exact ⟨x, l, rfl⟩
  simp only [List.length_cons] at hl
  refine enter (args := [.slice ao (x0 :: l0).length c]) Try.func96 rfl Try.ntmps96 rfl (SH.refl _) ?_
  repeat' (first | (refine TL_lss_f rfl rfl rfl (by simp only [List.length_cons]; omega) ?_) | refine r1 ?_ | (apply TL_box; exact rfl; exact rfl; exact rfl; intro _ _) | (apply TL_alloc; exact rfl; intro _ _) | (apply TL_buildSlice; exact rfl; exact rfl; exact rfl; exact rfl; exact rfl; intro _ _))
  refine TL_index 0 rfl rfl rfl (fun w h => h.sl ha) rfl (by simp) (Nat.le_refl _) ?_
  refine TL_load_el1 (u := x0) rfl rfl (fun w h => h.sl ha) rfl rfl ?_
  repeat' (first | refine rn ?_ | (apply TL_box; exact rfl; exact rfl; exact rfl; intro _ _) | (apply TL_alloc; exact rfl; intro _ _) | (apply TL_buildSlice; exact rfl; exact rfl; exact rfl; exact rfl; exact rfl; intro _ _))
  refine TC_loop (σ := Nat) (fun k => k ≤ l0.length) (fun k => [(0, .slice ao (x0 :: l0).length c), (3, .int .i64 ((l0.take k).foldl max x0)), (4, .int .i64 ((k : Int) + 1))]) (fun _ => []) (fun k => l0.length - k) 0 (Nat.zero_le _) sb (fun w h => h) (fun k hk => ?_)
  repeat' (first | refine rn ?_ | (apply TL_box; exact rfl; exact rfl; exact rfl; intro _ _) | (apply TL_alloc; exact rfl; intro _ _) | (apply TL_buildSlice; exact rfl; exact rfl; exact rfl; exact rfl; exact rfl; intro _ _))
  refine TC_cond_dec rfl (fun h1 => ?_) (fun h1 => ?_)
  · simp only [List.length_cons] at h1
    have hlt : k < l0.length := by omega
    obtain ⟨y, hy⟩ : ∃ y, l0[k]? = some y := ⟨_, List.getElem?_eq_getElem hlt⟩
    repeat' (first | refine rn ?_ | (apply TL_box; exact rfl; exact rfl; exact rfl; intro _ _) | (apply TL_alloc; exact rfl; intro _ _) | (apply TL_buildSlice; exact rfl; exact rfl; exact rfl; exact rfl; exact rfl; intro _ _))
    refine TL_index (k + 1) rfl rfl rfl (fun w h => h.sl ha) (by omega) (by simp; omega) (Nat.le_refl _) ?_
    refine TL_load_el1 (u := y) rfl rfl (fun w h => h.sl ha) (by simpa using hy) rfl ?_
    repeat' (first | refine rn ?_ | (apply TL_box; exact rfl; exact rfl; exact rfl; intro _ _) | (apply TL_alloc; exact rfl; intro _ _) | (apply TL_buildSlice; exact rfl; exact rfl; exact rfl; exact rfl; exact rfl; intro _ _))
    have e := fold_take (f := max) x0 l0 k y hy
    refine TQ_round (k + 1) hlt (by omega) (Sub.cons rfl (Sub.cons (by rw [e]; rfl) (Sub.cons rfl (Sub.nil _)))) (fun w h => h)
  · simp only [List.length_cons] at h1
    have hk2 : k = l0.length := by omega
    subst hk2
    repeat' (first | refine rn ?_ | (apply TL_box; exact rfl; exact rfl; exact rfl; intro _ _) | (apply TL_alloc; exact rfl; intro _ _) | (apply TL_buildSlice; exact rfl; exact rfl; exact rfl; exact rfl; exact rfl; intro _ _))
    exact TQ_ret1 Try.results96 (RV.tmp rfl) (fun w' hs => ⟨by rw [List.take_length]; rfl, hs.below⟩)

/-- A bunch at work, and its fruit. -/
def encTr (f : Ft) (b : Bn) (ao : Option Addr) (c : Nat) : List Value := [.slice ao b.ripe.length c, .int .i64 b.birds.1, .int .i64 b.birds.2, .bool b.cov, .int .i64 f.wet.1, .int .i64 f.wet.2, .int .i64 f.dry.1, .int .i64 f.dry.2, .int .i64 f.soft, .int .i64 f.half, .int .i64 f.keep, .int .i64 f.p0, .int .i64 f.p1, .int .i64 f.p2]
/-- How many birds eat at least, at most, on some days. -/
def bLo (b : Bn) (d : Int) : Int := if b.cov = true then 0 else d * b.birds.1
def bHi (b : Bn) (d : Int) : Int := if b.cov = true then 0 else d * b.birds.2
def takenR (b : Bn) (s : Sp) (d : Int) : Sp := (min s.1 (bLo b d), min s.2 (bHi b d))
def leftR (b : Bn) (s : Sp) (d : Int) : Sp := (max (s.1 - bHi b d) 0, max (s.2 - bLo b d) 0)
structure BirdB (b : Bn) (s : Sp) (d : Int) : Prop where
  a : 0 ≤ d * b.birds.1 ∧ d * b.birds.1 ≤ 1000000
  b : 0 ≤ d * b.birds.2 ∧ d * b.birds.2 ≤ 1000000
  c : 0 ≤ s.1 ∧ s.1 ≤ 100000
  e : 0 ≤ s.2 ∧ s.2 ≤ 100000

theorem c85 (f : Ft) (b : Bn) (ao : Option Addr) (c : Nat) (s : Sp) (d : Int) (hb : BirdB b s d) (w : World) : Calls Try.prog 85 #[.agg (encTr f b ao c).toArray, .agg (encSp s).toArray, .int .i64 d] w
    (RetV w (.tuple #[.agg (encSp (takenR b s d)).toArray, .agg (encSp (leftR b s d)).toArray])) := by
  obtain ⟨b1, b2, b3, b4⟩ := hb
  refine enter (args := [.agg (encTr f b ao c).toArray, .agg (encSp s).toArray, .int .i64 d]) Try.func85 rfl Try.ntmps85 rfl (SH.refl _) ?_
  repeat' (first | refine rn ?_ | (apply TL_box; exact rfl; exact rfl; exact rfl; intro _ _) | (apply TL_alloc; exact rfl; intro _ _) | (apply TL_buildSlice; exact rfl; exact rfl; exact rfl; exact rfl; exact rfl; intro _ _))
  rename_i b3 _ b4 _ b6 _ b7 _
  refine TC_cond rfl (fun h1 => ?_) (fun h1 => ?_)
  · have e1 : takenR b s d = (min s.1 (0 * b.birds.1), min s.2 (0 * b.birds.2)) := by unfold takenR bLo bHi; rw [if_pos h1, if_pos h1]; simp
    have e2 : leftR b s d = (max (s.1 - 0 * b.birds.2) 0, max (s.2 - 0 * b.birds.1) 0) := by unfold leftR bLo bHi; rw [if_pos h1, if_pos h1]; simp
    repeat' (first | refine rn ?_ | (apply TL_box; exact rfl; exact rfl; exact rfl; intro _ _) | (apply TL_alloc; exact rfl; intro _ _) | (apply TL_buildSlice; exact rfl; exact rfl; exact rfl; exact rfl; exact rfl; intro _ _))
    apply TC_draw 14; kernel_rfl; exact Try.mixed
    · iterate 14 (refine' pv ?_; rotate_left)
      exact PG.nil
    change TL _ _ _ _ _ _ _ _ _ _ _
    repeat' (first | refine rn ?_ | (apply TL_box; exact rfl; exact rfl; exact rfl; intro _ _) | (apply TL_alloc; exact rfl; intro _ _) | (apply TL_buildSlice; exact rfl; exact rfl; exact rfl; exact rfl; exact rfl; intro _ _))
    apply TC_draw2 21 20 0 1; exact rfl; kernel_rfl; exact rfl; exact Try.mixed
    · iterate 20 (refine' pv2 ?_; rotate_left)
      (refine' PG2.sto ([(b6, .cells (encSp (min s.1 (0 * b.birds.1), min s.2 (0 * b.birds.2))) 23)]) rfl rfl (by intro _X; refine r1 ?_; exact TL_nil (TQ_QD (fun _ h => h))) ?_; rotate_left)
      exact PG2.nil
    rintro _ _ rfl
    change TL _ _ _ _ _ _ _ _ _ _ _
    repeat' (first | refine rn ?_ | (apply TL_box; exact rfl; exact rfl; exact rfl; intro _ _) | (apply TL_alloc; exact rfl; intro _ _) | (apply TL_buildSlice; exact rfl; exact rfl; exact rfl; exact rfl; exact rfl; intro _ _))
    exact TQ_ret2 Try.results85 (RV.celln rfl mm (by rfl)) (RV.celln rfl mm (by rfl)) (fun w' hs => ⟨by rw [e1, e2]; rfl, hs.below⟩)
  · have e1 : takenR b s d = (min s.1 (d * b.birds.1), min s.2 (d * b.birds.2)) := by unfold takenR bLo bHi; rw [if_neg (by simp [h1]), if_neg (by simp [h1])]
    have e2 : leftR b s d = (max (s.1 - d * b.birds.2) 0, max (s.2 - d * b.birds.1) 0) := by unfold leftR bLo bHi; rw [if_neg (by simp [h1]), if_neg (by simp [h1])]
    repeat' (first | refine rn ?_ | (apply TL_box; exact rfl; exact rfl; exact rfl; intro _ _) | (apply TL_alloc; exact rfl; intro _ _) | (apply TL_buildSlice; exact rfl; exact rfl; exact rfl; exact rfl; exact rfl; intro _ _))
    apply TC_draw 14; kernel_rfl; exact Try.mixed
    · iterate 14 (refine' pv ?_; rotate_left)
      exact PG.nil
    change TL _ _ _ _ _ _ _ _ _ _ _
    repeat' (first | refine rn ?_ | (apply TL_box; exact rfl; exact rfl; exact rfl; intro _ _) | (apply TL_alloc; exact rfl; intro _ _) | (apply TL_buildSlice; exact rfl; exact rfl; exact rfl; exact rfl; exact rfl; intro _ _))
    apply TC_draw2 21 20 0 1; exact rfl; kernel_rfl; exact rfl; exact Try.mixed
    · iterate 20 (refine' pv2 ?_; rotate_left)
      (refine' PG2.sto ([(b6, .cells (encSp (min s.1 (d * b.birds.1), min s.2 (d * b.birds.2))) 23)]) rfl rfl (by intro _X; refine r1 ?_; exact TL_nil (TQ_QD (fun _ h => h))) ?_; rotate_left)
      exact PG2.nil
    rintro _ _ rfl
    change TL _ _ _ _ _ _ _ _ _ _ _
    repeat' (first | refine rn ?_ | (apply TL_box; exact rfl; exact rfl; exact rfl; intro _ _) | (apply TL_alloc; exact rfl; intro _ _) | (apply TL_buildSlice; exact rfl; exact rfl; exact rfl; exact rfl; exact rfl; intro _ _))
    exact TQ_ret2 Try.results85 (RV.celln rfl mm (by rfl)) (RV.celln rfl mm (by rfl)) (fun w' hs => ⟨by rw [e1, e2]; rfl, hs.below⟩)

theorem c86 (b : Bn) (ao : Option Addr) (c : Nat) (s : Sp) (d : Int) (hb : BirdB b s d) (w : World) : Calls Try.prog 86 #[.agg (encBn b ao c).toArray, .agg (encSp s).toArray, .int .i64 d] w
    (RetV w (.tuple #[.agg (encSp (takenR b s d)).toArray, .agg (encSp (leftR b s d)).toArray])) := by
  obtain ⟨b1, b2, b3, b4⟩ := hb
  refine enter (args := [.agg (encBn b ao c).toArray, .agg (encSp s).toArray, .int .i64 d]) Try.func86 rfl Try.ntmps86 rfl (SH.refl _) ?_
  repeat' (first | refine rn ?_ | (apply TL_box; exact rfl; exact rfl; exact rfl; intro _ _) | (apply TL_alloc; exact rfl; intro _ _) | (apply TL_buildSlice; exact rfl; exact rfl; exact rfl; exact rfl; exact rfl; intro _ _))
  rename_i b3 _ b4 _ b6 _ b7 _
  apply TC_draw 12; kernel_rfl; exact Try.mixed
  · iterate 12 (refine' pv ?_; rotate_left)
    exact PG.nil
  change TL _ _ _ _ _ _ _ _ _ _ _
  repeat' (first | refine rn ?_ | (apply TL_box; exact rfl; exact rfl; exact rfl; intro _ _) | (apply TL_alloc; exact rfl; intro _ _) | (apply TL_buildSlice; exact rfl; exact rfl; exact rfl; exact rfl; exact rfl; intro _ _))
  refine TC_cond rfl (fun h1 => ?_) (fun h1 => ?_)
  · have e1 : takenR b s d = (min s.1 0, min s.2 0) := by unfold takenR bLo bHi; rw [if_pos h1, if_pos h1]
    have e2 : leftR b s d = (max 0 (s.1 - 0), max 0 (s.2 - 0)) := by unfold leftR bLo bHi; rw [if_pos h1, if_pos h1, Int.max_comm 0, Int.max_comm 0]
    repeat' (first | refine rn ?_ | (apply TL_box; exact rfl; exact rfl; exact rfl; intro _ _) | (apply TL_alloc; exact rfl; intro _ _) | (apply TL_buildSlice; exact rfl; exact rfl; exact rfl; exact rfl; exact rfl; intro _ _))
    apply TC_draw2 21 20 0 1; exact rfl; kernel_rfl; exact rfl; exact Try.mixed
    · iterate 20 (refine' pv2 ?_; rotate_left)
      (refine' PG2.sto ([(b6, .cells (encSp (min s.1 0, min s.2 0)) 23)]) rfl rfl (by intro _X; refine r1 ?_; exact TL_nil (TQ_QD (fun _ h => h))) ?_; rotate_left)
      exact PG2.nil
    rintro _ _ rfl
    change TL _ _ _ _ _ _ _ _ _ _ _
    repeat' (first | refine rn ?_ | (apply TL_box; exact rfl; exact rfl; exact rfl; intro _ _) | (apply TL_alloc; exact rfl; intro _ _) | (apply TL_buildSlice; exact rfl; exact rfl; exact rfl; exact rfl; exact rfl; intro _ _))
    exact TQ_ret2 Try.results86 (RV.celln rfl mm (by rfl)) (RV.celln rfl mm (by rfl)) (fun w' hs => ⟨by rw [e1, e2]; rfl, hs.below⟩)
  · have e1 : takenR b s d = (min s.1 (d * b.birds.1), min s.2 (d * b.birds.2)) := by unfold takenR bLo bHi; rw [if_neg (by simp [h1]), if_neg (by simp [h1])]
    have e2 : leftR b s d = (max 0 (s.1 - d * b.birds.2), max 0 (s.2 - d * b.birds.1)) := by unfold leftR bLo bHi; rw [if_neg (by simp [h1]), if_neg (by simp [h1]), Int.max_comm 0, Int.max_comm 0]
    repeat' (first | refine rn ?_ | (apply TL_box; exact rfl; exact rfl; exact rfl; intro _ _) | (apply TL_alloc; exact rfl; intro _ _) | (apply TL_buildSlice; exact rfl; exact rfl; exact rfl; exact rfl; exact rfl; intro _ _))
    apply TC_draw2 21 20 0 1; exact rfl; kernel_rfl; exact rfl; exact Try.mixed
    · iterate 20 (refine' pv2 ?_; rotate_left)
      (refine' PG2.sto ([(b6, .cells (encSp (min s.1 (d * b.birds.1), min s.2 (d * b.birds.2))) 23)]) rfl rfl (by intro _X; refine r1 ?_; exact TL_nil (TQ_QD (fun _ h => h))) ?_; rotate_left)
      exact PG2.nil
    rintro _ _ rfl
    change TL _ _ _ _ _ _ _ _ _ _ _
    repeat' (first | refine rn ?_ | (apply TL_box; exact rfl; exact rfl; exact rfl; intro _ _) | (apply TL_alloc; exact rfl; intro _ _) | (apply TL_buildSlice; exact rfl; exact rfl; exact rfl; exact rfl; exact rfl; intro _ _))
    exact TQ_ret2 Try.results86 (RV.celln rfl mm (by rfl)) (RV.celln rfl mm (by rfl)) (fun w' hs => ⟨by rw [e1, e2]; rfl, hs.below⟩)
end Go.Proofs.Ytccgplomnjpniaa
/- Walks: dates that are cut, and what they are worth. -/
namespace Go.Proofs.Ytccgplomnjpniaa
open Go Go.Eng Go.RowKit Go.Proofs
set_option maxHeartbeats 1000000
set_option maxRecDepth 10000
attribute [local irreducible] TL TC TQ

structure Yd where
  g0 : Sp
  g1 : Sp
  g2 : Sp
  taken : Sp
  fallen : Sp
  left : Sp
  worth : Sp
def encYd (y : Yd) : List Value := [.int .i64 y.g0.1, .int .i64 y.g0.2, .int .i64 y.g1.1, .int .i64 y.g1.2, .int .i64 y.g2.1, .int .i64 y.g2.2, .int .i64 y.taken.1, .int .i64 y.taken.2, .int .i64 y.fallen.1, .int .i64 y.fallen.2, .int .i64 y.left.1, .int .i64 y.left.2, .int .i64 y.worth.1, .int .i64 y.worth.2]
def zeroYd : Yd := ⟨(0, 0), (0, 0), (0, 0), (0, 0), (0, 0), (0, 0), (0, 0)⟩
/-- All numbers lie from 0 to n. -/
def InS (s : Sp) (n : Int) : Prop := (0 ≤ s.1 ∧ s.1 ≤ n) ∧ (0 ≤ s.2 ∧ s.2 ≤ n)
structure YB (y : Yd) (n : Int) : Prop where
  g0 : InS y.g0 n
  g1 : InS y.g1 n
  g2 : InS y.g2 n
  taken : InS y.taken n
  fallen : InS y.fallen n
  left : InS y.left n
  worth : InS y.worth n
def addSp (a b : Sp) : Sp := (a.1 + b.1, a.2 + b.2)
/-- A grade's span grows. -/
def plusG (s left : Sp) (one : Bool) : Sp := (if one then s.1 + left.1 else s.1, s.2 + left.2)
def addG (y : Yd) (i : Nat) (left : Sp) (one : Bool) : Yd := match i with
  | 0 => { y with g0 := plusG y.g0 left one }
  | 1 => { y with g1 := plusG y.g1 left one }
  | _ => { y with g2 := plusG y.g2 left one }
def addGs (y : Yd) (a : Nat) (left : Sp) (one : Bool) : Nat → Yd
  | 0 => y
  | k + 1 => addG (addGs y a left one k) (a + k) left one
def gA (f : Ft) (d : Int) : Nat := (gLo f d).toNat
def gN (f : Ft) (d : Int) : Nat := (gHi f d - gLo f d + 1).toNat
def prL (f : Ft) : List Int := [f.p0, f.p1, f.p2]
/-- The prices of the grades that dates may have after some days. -/
def someP (f : Ft) (d : Int) : List Int := ((prL f).drop (gA f d)).take (gN f d)
def pickR (f : Ft) (y : Yd) (left : Sp) (d : Int) : Yd :=
  let y' := addGs y (gA f d) left (decide (gN f d = 1)) (gN f d)
  { y' with worth := addSp y'.worth (minL (someP f d) * left.1, maxL (someP f d) * left.2) }

theorem gradeR_mono (f : Ft) (hf : f.half ≤ f.soft) {m n : Int} (h : m ≤ n) : gradeR f n ≤ gradeR f m := by
  unfold gradeR
  split <;> split <;> (try split) <;> (try split) <;> omega
theorem g_range {f : Ft} {d : Int} (hf : OkFt f) (hb : DayB f d) (hd : 0 ≤ d) : ∃ a n : Nat, gLo f d = (a : Int) ∧ gHi f d = (a : Int) + n - 1 ∧ 1 ≤ n ∧ a + n ≤ 3 ∧ gA f d = a ∧ gN f d = n := by
  have h1 : gLo f d ≤ gHi f d := by
    refine gradeR_mono f hf.2.2.2.2.1 ?_
    have := hf.1
    have h2 := hf.2.1
    simp only [Ord] at this h2
    have : d * f.dry.1 ≤ d * f.dry.2 := Int.mul_le_mul_of_nonneg_left h2.2.1 hd
    omega
  have h2 := gradeR_range f (max (f.wet.2 - d * f.dry.1) 0)
  have h3 := gradeR_range f (max (f.wet.1 - d * f.dry.2) 0)
  change gLo f d = 0 ∨ gLo f d = 1 ∨ gLo f d = 2 at h2
  change gHi f d = 0 ∨ gHi f d = 1 ∨ gHi f d = 2 at h3
  refine ⟨(gLo f d).toNat, (gHi f d - gLo f d + 1).toNat, by omega, by omega, by omega, by omega, rfl, rfl⟩
theorem someP_ne {f : Ft} {d : Int} (hf : OkFt f) (hb : DayB f d) (hd : 0 ≤ d) : someP f d ≠ [] ∧ (someP f d).length = gN f d := by
  obtain ⟨a, n, _, _, h1, h2, h3, h4⟩ := g_range hf hb hd
  have : (someP f d).length = n := by simp [someP, prL, h3, h4]; omega
  exact ⟨fun h => by rw [h] at this; simp at this; omega, by rw [this, h4]⟩
theorem prL_in {f : Ft} (hf : OkFt f) : ∀ x ∈ prL f, 0 ≤ x ∧ x ≤ 1000 := by
  obtain ⟨_, _, _, _, _, _, h1, h2, h3⟩ := hf
  simp only [In] at h1 h2 h3
  simp [prL, h1, h2, h3]
theorem fold_in {g : Int → Int → Int} (hg : ∀ a b, g a b = a ∨ g a b = b) {lo hi : Int} : ∀ (l : List Int) (x : Int), (∀ y ∈ l, lo ≤ y ∧ y ≤ hi) → lo ≤ x ∧ x ≤ hi → lo ≤ l.foldl g x ∧ l.foldl g x ≤ hi := by
  intro l
  induction l with
  | nil => intro x _ h; exact h
  | cons y l ih =>
    intro x h hx
    refine ih _ (fun z hz => h z (List.mem_cons_of_mem _ hz)) ?_
    rcases hg x y with e | e <;> rw [e]
    · exact hx
    · exact h y List.mem_cons_self
theorem minL_in {lo hi : Int} {l : List Int} (hne : l ≠ []) (h : ∀ y ∈ l, lo ≤ y ∧ y ≤ hi) : lo ≤ minL l ∧ minL l ≤ hi := by
  cases l with
  | nil => exact absurd rfl hne
  | cons x l => exact fold_in (fun a b => by omega) l x (fun y hy => h y (List.mem_cons_of_mem _ hy)) (h x List.mem_cons_self)
theorem maxL_in {lo hi : Int} {l : List Int} (hne : l ≠ []) (h : ∀ y ∈ l, lo ≤ y ∧ y ≤ hi) : lo ≤ maxL l ∧ maxL l ≤ hi := by
  cases l with
  | nil => exact absurd rfl hne
  | cons x l => exact fold_in (fun a b => by omega) l x (fun y hy => h y (List.mem_cons_of_mem _ hy)) (h x List.mem_cons_self)
theorem someP_in {f : Ft} (hf : OkFt f) (d : Int) : ∀ x ∈ someP f d, 0 ≤ x ∧ x ≤ 1000 := fun x hx => prL_in hf x (List.mem_of_mem_drop (List.mem_of_mem_take hx))
theorem worthB {f : Ft} {d : Int} (hf : OkFt f) (hb : DayB f d) (hd : 0 ≤ d) {left : Sp} (hl : InS left 100000) : (0 ≤ minL (someP f d) * left.1 ∧ minL (someP f d) * left.1 ≤ 100000000) ∧ (0 ≤ maxL (someP f d) * left.2 ∧ maxL (someP f d) * left.2 ≤ 100000000) := by
  obtain ⟨hne, _⟩ := someP_ne hf hb hd
  have h1 := minL_in hne (someP_in hf d)
  have h2 := maxL_in hne (someP_in hf d)
  exact ⟨mulB h1.1 h1.2 hl.1.1 hl.1.2, mulB h2.1 h2.2 hl.2.1 hl.2.2⟩
theorem plusG_B {s left : Sp} {one : Bool} {n m k : Int} (h : InS s n) (hl : InS left m) (hk : n + m ≤ k) : InS (plusG s left one) k := by
  simp only [InS, plusG] at *
  refine ⟨?_, ?_⟩
  · cases one <;> simp <;> omega
  · omega
theorem InS.mono {s : Sp} {n m : Int} (h : InS s n) (hn : n ≤ m) : InS s m := ⟨⟨h.1.1, by have := h.1.2; omega⟩, ⟨h.2.1, by have := h.2.2; omega⟩⟩
theorem YB.mono {y : Yd} {n m : Int} (h : YB y n) (hn : n ≤ m) : YB y m := ⟨h.1.mono hn, h.2.mono hn, h.3.mono hn, h.4.mono hn, h.5.mono hn, h.6.mono hn, h.7.mono hn⟩
theorem addG_B {y : Yd} {i : Nat} {left : Sp} {one : Bool} {n : Int} (h : YB y n) (hl : InS left 100000) : YB (addG y i left one) (n + 100000) := by
  have h' := h.mono (show n ≤ n + 100000 by omega)
  unfold addG
  split
  · exact { h' with g0 := plusG_B h.g0 hl (Int.le_refl _) }
  · exact { h' with g1 := plusG_B h.g1 hl (Int.le_refl _) }
  · exact { h' with g2 := plusG_B h.g2 hl (Int.le_refl _) }
theorem addGs_B {y : Yd} {a : Nat} {left : Sp} {one : Bool} {n : Int} (h : YB y n) (hl : InS left 100000) : ∀ k : Nat, YB (addGs y a left one k) (n + 100000 * k) := by
  intro k
  induction k with
  | zero => simpa [addGs] using h
  | succ k ih => exact (addG_B ih hl).mono (by omega)
theorem addGs_worth {y : Yd} {a : Nat} {left : Sp} {one : Bool} : ∀ k : Nat, (addGs y a left one k).worth = y.worth := by
  intro k
  induction k with
  | zero => rfl
  | succ k ih => rw [← ih, addGs]; unfold addG; split <;> rfl
theorem pickR_B {f : Ft} {d : Int} {y : Yd} {left : Sp} {n : Int} (hf : OkFt f) (hb : DayB f d) (hd : 0 ≤ d) (h : YB y n) (hl : InS left 100000) : YB (pickR f y left d) (n + 100000000) := by
  obtain ⟨a, m, _, _, h1, h2, h3, h4⟩ := g_range hf hb hd
  have hy := (addGs_B (a := gA f d) (one := decide (gN f d = 1)) h hl (gN f d)).mono (show n + 100000 * (gN f d : Int) ≤ n + 100000000 by omega)
  have hw := worthB hf hb hd hl
  refine { hy with worth := ?_ }
  simp only [pickR]
  rw [addGs_worth]
  have := h.worth
  simp only [InS, addSp] at *
  omega
end Go.Proofs.Ytccgplomnjpniaa
/- Walks: dates that are cut. -/
namespace Go.Proofs.Ytccgplomnjpniaa
open Go Go.Eng Go.RowKit Go.Proofs
set_option maxHeartbeats 1000000
set_option maxRecDepth 10000
attribute [local irreducible] TL TC TQ

theorem encYd_g0 (y : Yd) (left : Sp) (one : Bool) : encYd (addG y 0 left one) = [.int .i64 (plusG y.g0 left one).1, .int .i64 (plusG y.g0 left one).2, .int .i64 y.g1.1, .int .i64 y.g1.2, .int .i64 y.g2.1, .int .i64 y.g2.2, .int .i64 y.taken.1, .int .i64 y.taken.2, .int .i64 y.fallen.1, .int .i64 y.fallen.2, .int .i64 y.left.1, .int .i64 y.left.2, .int .i64 y.worth.1, .int .i64 y.worth.2] := rfl

theorem Sl.prices {B : Nat} {w0 w : World} {H : Hp} {b : Nat} {f : Ft} {bn : Bn} {ao : Option Addr} {c : Nat} {T : TypeId} (h : SH B w0 w H) (hm : (b, .cells (encTr f bn ao c) T) ∈ H) (a n : Nat) (ha : a < 3) : Sl w 1 encI (some ⟨b, 0 + 4 + 7 + a * 1, none⟩) (((prL f).drop a).take n) := by
  have h1 : Sl w 1 encI (some ⟨b, 0 + 4 + 7 + a * 1, none⟩) ((prL f).drop a) := by
    refine Sl.of_blk_off h hm (fun _ _ => rfl) ⟨[], ?_⟩
    have : a = 0 ∨ a = 1 ∨ a = 2 := by omega
    rcases this with rfl | rfl | rfl <;> rfl
  exact h1.take n

theorem c80 {B : Nat} {w0 : World} (f : Ft) (b : Bn) (ao : Option Addr) (c : Nat) (y : Yd) (left : Sp) (d : Int) (hf : OkFt f) (hd : In d 0 30) (hy : YB y 10000000000) (hl : InS left 100000) (by_ : Nat) (G : Hp) (w : World) (hs : SH B w0 w ((by_, .cells (encYd y) 55) :: G)) :
    Calls Try.prog 80 #[.agg (encTr f b ao c).toArray, .pointer (some ⟨by_, 0, none⟩), .agg (encSp left).toArray, .int .i64 d] w (RetP B w0 (fun _ : Unit => .tuple #[]) (fun _ => (by_, .cells (encYd (pickR f y left d)) 55) :: G) (fun _ => True)) := by
  have hb := dayB hf hd
  obtain ⟨a, n, e1, e2, e3, e4, e5, e6⟩ := g_range hf hb hd.1
  obtain ⟨hne, hlen⟩ := someP_ne hf hb hd.1
  have hsp := someP_in hf d
  have hw := worthB hf hb hd.1 hl
  have c55' := fun w => c55 f d hb w
  have hB := fun k => addGs_B (a := a) (one := decide (n = 1)) hy hl k
  rw [e1, e2] at c55'
  refine enter (args := [.agg (encTr f b ao c).toArray, .pointer (some ⟨by_, 0, none⟩), .agg (encSp left).toArray, .int .i64 d]) Try.func80 rfl Try.ntmps80 rfl hs ?_
  repeat' (first | refine rn ?_ | (apply TL_box; exact rfl; exact rfl; exact rfl; intro _ _) | (apply TL_alloc; exact rfl; intro _ _) | (apply TL_buildSlice; exact rfl; exact rfl; exact rfl; exact rfl; exact rfl; intro _ _))
  rename_i b4 _ b6 _
  refine TL_callV rfl rfl rfl (fun w _ => c55' w) ?_
  repeat' (first | refine rn ?_ | (apply TL_box; exact rfl; exact rfl; exact rfl; intro _ _) | (apply TL_alloc; exact rfl; intro _ _) | (apply TL_buildSlice; exact rfl; exact rfl; exact rfl; exact rfl; exact rfl; intro _ _))
  rename_i b8 _
  refine TL_indexAddrA 0 rfl rfl rfl rfl (by omega) ?_
  repeat' (first | refine rn ?_ | (apply TL_box; exact rfl; exact rfl; exact rfl; intro _ _) | (apply TL_alloc; exact rfl; intro _ _) | (apply TL_buildSlice; exact rfl; exact rfl; exact rfl; exact rfl; exact rfl; intro _ _))
  refine TL_indexAddrA 1 rfl rfl rfl rfl (by omega) ?_
  repeat' (first | refine rn ?_ | (apply TL_box; exact rfl; exact rfl; exact rfl; intro _ _) | (apply TL_alloc; exact rfl; intro _ _) | (apply TL_buildSlice; exact rfl; exact rfl; exact rfl; exact rfl; exact rfl; intro _ _))
  refine TL_sliceA2 a (a + n) rfl rfl rfl rfl rfl (by omega) (by omega) (by omega) (by omega) ?_
  rw [show a + n - a = n by omega]
  repeat' (first | refine rn ?_ | (apply TL_box; exact rfl; exact rfl; exact rfl; intro _ _) | (apply TL_alloc; exact rfl; intro _ _) | (apply TL_buildSlice; exact rfl; exact rfl; exact rfl; exact rfl; exact rfl; intro _ _))
  refine TC_loop (σ := Nat) (fun k => k ≤ n) (fun k => [(1, .pointer (some ⟨by_, 0, none⟩)), (6, .pointer (some ⟨b6, 0, none⟩)), (8, .pointer (some ⟨b8, 0, none⟩)), (9, .slice (some ⟨b4, 0 + 4 + 7 + a * 1, none⟩) n (3 - a)), (25, .int .i64 n), (26, .int .i64 k)])
    (fun k => [(b8, .cells [.int .i64 a, .int .i64 ((a : Int) + n - 1)] 81), (b6, .cells (encSp left) 23), (b4, .cells (encTr f b ao c) 110), (by_, .cells (encYd (addGs y a left (decide (n = 1)) k)) 55)] ++ G) (fun k => n - k) 0 (Nat.zero_le _) sb (fun w h => h) (fun k hk => ?_)
  · have hBk := hB k
    obtain ⟨⟨q1, q2⟩, ⟨q3, q4⟩, ⟨q5, q6⟩, _, _, _, hwB⟩ := hBk
    obtain ⟨l1, l2⟩ := hl
    have hk10 : k ≤ 3 := by omega
    have hnext : addGs y a left (decide (n = 1)) (k + 1) = addG (addGs y a left (decide (n = 1)) k) (a + k) left (decide (n = 1)) := rfl
    have hdone : (someP f d).length = n := by rw [hlen, e6]
    have hpick : k = n → pickR f y left d = { addGs y a left (decide (n = 1)) k with worth := addSp (addGs y a left (decide (n = 1)) k).worth (minL (someP f d) * left.1, maxL (someP f d) * left.2) } := fun e => by subst e; simp only [pickR, e5, e6]
    generalize addGs y a left (decide (n = 1)) k = yk at *
    repeat' (first | refine rn ?_ | (apply TL_box; exact rfl; exact rfl; exact rfl; intro _ _) | (apply TL_alloc; exact rfl; intro _ _) | (apply TL_buildSlice; exact rfl; exact rfl; exact rfl; exact rfl; exact rfl; intro _ _))
    refine TC_cond_dec rfl (fun h1 => ?_) (fun h1 => ?_)
    · have hlt : k < n := by omega
      have hi : a + k = 0 ∨ a + k = 1 ∨ a + k = 2 := by omega
      repeat' (first | refine rn ?_ | (apply TL_box; exact rfl; exact rfl; exact rfl; intro _ _) | (apply TL_alloc; exact rfl; intro _ _) | (apply TL_buildSlice; exact rfl; exact rfl; exact rfl; exact rfl; exact rfl; intro _ _))
      rcases hi with hi | hi | hi
      · rw [hi] at hnext
        apply TC_draw 9; kernel_rfl; exact Try.mixed
        · (refine' pv ?_; rotate_left)
          (refine' PG.val rfl rfl (by intro _X; refine TL_indexAddrA 0 rfl rfl rfl rfl (by omega) ?_; exact qe) ?_; rotate_left)
          iterate 3 (refine' pv ?_; rotate_left)
          (refine' PG.val rfl rfl (by intro _X; refine TL_nilCheck rfl rfl ?_; exact qe) ?_; rotate_left)
          (refine' pv ?_; rotate_left)
          (refine' PG.val rfl rfl (by intro _X; refine TL_indexAddrA 0 rfl rfl rfl (by omega) (by omega) ?_; exact qe) ?_; rotate_left)
          (refine' pv ?_; rotate_left)
          exact PG.nil
        change TL _ _ _ _ _ _ _ _ _ _ _
        repeat' (first | refine rn ?_ | (apply TL_box; exact rfl; exact rfl; exact rfl; intro _ _) | (apply TL_alloc; exact rfl; intro _ _) | (apply TL_buildSlice; exact rfl; exact rfl; exact rfl; exact rfl; exact rfl; intro _ _))
        refine TC_cond_dec rfl (fun h2 => ?_) (fun h2 => ?_)
        · have hn : n = 1 := by omega
          repeat' (first | refine rn ?_ | (apply TL_box; exact rfl; exact rfl; exact rfl; intro _ _) | (apply TL_alloc; exact rfl; intro _ _) | (apply TL_buildSlice; exact rfl; exact rfl; exact rfl; exact rfl; exact rfl; intro _ _))
          apply TC_draw 9; kernel_rfl; exact Try.mixed
          · (refine' pv ?_; rotate_left)
            (refine' PG.val rfl rfl (by intro _X; refine TL_nilCheck rfl rfl ?_; exact qe) ?_; rotate_left)
            iterate 5 (refine' pv ?_; rotate_left)
            (refine' PG.val rfl rfl (by intro _X; refine TL_nilCheck rfl rfl ?_; exact qe) ?_; rotate_left)
            (refine' pv ?_; rotate_left)
            exact PG.nil
          change TL _ _ _ _ _ _ _ _ _ _ _
          repeat' (first | refine rn ?_ | (apply TL_box; exact rfl; exact rfl; exact rfl; intro _ _) | (apply TL_alloc; exact rfl; intro _ _) | (apply TL_buildSlice; exact rfl; exact rfl; exact rfl; exact rfl; exact rfl; intro _ _))
          apply TC_draw 9; kernel_rfl; exact Try.mixed
          · (refine' pv ?_; rotate_left)
            (refine' PG.val rfl rfl (by intro _X; refine TL_nilCheck rfl rfl ?_; exact qe) ?_; rotate_left)
            iterate 5 (refine' pv ?_; rotate_left)
            (refine' PG.val rfl rfl (by intro _X; refine TL_nilCheck rfl rfl ?_; exact qe) ?_; rotate_left)
            (refine' pv ?_; rotate_left)
            exact PG.nil
          change TL _ _ _ _ _ _ _ _ _ _ _
          repeat' (first | refine rn ?_ | (apply TL_box; exact rfl; exact rfl; exact rfl; intro _ _) | (apply TL_alloc; exact rfl; intro _ _) | (apply TL_buildSlice; exact rfl; exact rfl; exact rfl; exact rfl; exact rfl; intro _ _))
          refine TQ_round (k + 1) hlt (by omega) sb (fun w h => ?_)
          rw [hnext, decide_eq_true hn]; exact h
        · have hn : ¬ n = 1 := by omega
          repeat' (first | refine rn ?_ | (apply TL_box; exact rfl; exact rfl; exact rfl; intro _ _) | (apply TL_alloc; exact rfl; intro _ _) | (apply TL_buildSlice; exact rfl; exact rfl; exact rfl; exact rfl; exact rfl; intro _ _))
          apply TC_draw 9; kernel_rfl; exact Try.mixed
          · (refine' pv ?_; rotate_left)
            (refine' PG.val rfl rfl (by intro _X; refine TL_nilCheck rfl rfl ?_; exact qe) ?_; rotate_left)
            iterate 5 (refine' pv ?_; rotate_left)
            (refine' PG.val rfl rfl (by intro _X; refine TL_nilCheck rfl rfl ?_; exact qe) ?_; rotate_left)
            (refine' pv ?_; rotate_left)
            exact PG.nil
          change TL _ _ _ _ _ _ _ _ _ _ _
          repeat' (first | refine rn ?_ | (apply TL_box; exact rfl; exact rfl; exact rfl; intro _ _) | (apply TL_alloc; exact rfl; intro _ _) | (apply TL_buildSlice; exact rfl; exact rfl; exact rfl; exact rfl; exact rfl; intro _ _))
          refine TQ_round (k + 1) hlt (by omega) sb (fun w h => ?_)
          rw [hnext, decide_eq_false hn]; exact h
      · rw [hi] at hnext
        apply TC_draw 9; kernel_rfl; exact Try.mixed
        · (refine' pv ?_; rotate_left)
          (refine' PG.val rfl rfl (by intro _X; refine TL_indexAddrA 0 rfl rfl rfl rfl (by omega) ?_; exact qe) ?_; rotate_left)
          iterate 3 (refine' pv ?_; rotate_left)
          (refine' PG.val rfl rfl (by intro _X; refine TL_nilCheck rfl rfl ?_; exact qe) ?_; rotate_left)
          (refine' pv ?_; rotate_left)
          (refine' PG.val rfl rfl (by intro _X; refine TL_indexAddrA 1 rfl rfl rfl (by omega) (by omega) ?_; exact qe) ?_; rotate_left)
          (refine' pv ?_; rotate_left)
          exact PG.nil
        change TL _ _ _ _ _ _ _ _ _ _ _
        repeat' (first | refine rn ?_ | (apply TL_box; exact rfl; exact rfl; exact rfl; intro _ _) | (apply TL_alloc; exact rfl; intro _ _) | (apply TL_buildSlice; exact rfl; exact rfl; exact rfl; exact rfl; exact rfl; intro _ _))
        refine TC_cond_dec rfl (fun h2 => ?_) (fun h2 => ?_)
        · have hn : n = 1 := by omega
          repeat' (first | refine rn ?_ | (apply TL_box; exact rfl; exact rfl; exact rfl; intro _ _) | (apply TL_alloc; exact rfl; intro _ _) | (apply TL_buildSlice; exact rfl; exact rfl; exact rfl; exact rfl; exact rfl; intro _ _))
          apply TC_draw 9; kernel_rfl; exact Try.mixed
          · (refine' pv ?_; rotate_left)
            (refine' PG.val rfl rfl (by intro _X; refine TL_nilCheck rfl rfl ?_; exact qe) ?_; rotate_left)
            iterate 5 (refine' pv ?_; rotate_left)
            (refine' PG.val rfl rfl (by intro _X; refine TL_nilCheck rfl rfl ?_; exact qe) ?_; rotate_left)
            (refine' pv ?_; rotate_left)
            exact PG.nil
          change TL _ _ _ _ _ _ _ _ _ _ _
          repeat' (first | refine rn ?_ | (apply TL_box; exact rfl; exact rfl; exact rfl; intro _ _) | (apply TL_alloc; exact rfl; intro _ _) | (apply TL_buildSlice; exact rfl; exact rfl; exact rfl; exact rfl; exact rfl; intro _ _))
          apply TC_draw 9; kernel_rfl; exact Try.mixed
          · (refine' pv ?_; rotate_left)
            (refine' PG.val rfl rfl (by intro _X; refine TL_nilCheck rfl rfl ?_; exact qe) ?_; rotate_left)
            iterate 5 (refine' pv ?_; rotate_left)
            (refine' PG.val rfl rfl (by intro _X; refine TL_nilCheck rfl rfl ?_; exact qe) ?_; rotate_left)
            (refine' pv ?_; rotate_left)
            exact PG.nil
          change TL _ _ _ _ _ _ _ _ _ _ _
          repeat' (first | refine rn ?_ | (apply TL_box; exact rfl; exact rfl; exact rfl; intro _ _) | (apply TL_alloc; exact rfl; intro _ _) | (apply TL_buildSlice; exact rfl; exact rfl; exact rfl; exact rfl; exact rfl; intro _ _))
          refine TQ_round (k + 1) hlt (by omega) sb (fun w h => ?_)
          rw [hnext, decide_eq_true hn]; exact h
        · have hn : ¬ n = 1 := by omega
          repeat' (first | refine rn ?_ | (apply TL_box; exact rfl; exact rfl; exact rfl; intro _ _) | (apply TL_alloc; exact rfl; intro _ _) | (apply TL_buildSlice; exact rfl; exact rfl; exact rfl; exact rfl; exact rfl; intro _ _))
          apply TC_draw 9; kernel_rfl; exact Try.mixed
          · (refine' pv ?_; rotate_left)
            (refine' PG.val rfl rfl (by intro _X; refine TL_nilCheck rfl rfl ?_; exact qe) ?_; rotate_left)
            iterate 5 (refine' pv ?_; rotate_left)
            (refine' PG.val rfl rfl (by intro _X; refine TL_nilCheck rfl rfl ?_; exact qe) ?_; rotate_left)
            (refine' pv ?_; rotate_left)
            exact PG.nil
          change TL _ _ _ _ _ _ _ _ _ _ _
          repeat' (first | refine rn ?_ | (apply TL_box; exact rfl; exact rfl; exact rfl; intro _ _) | (apply TL_alloc; exact rfl; intro _ _) | (apply TL_buildSlice; exact rfl; exact rfl; exact rfl; exact rfl; exact rfl; intro _ _))
          refine TQ_round (k + 1) hlt (by omega) sb (fun w h => ?_)
          rw [hnext, decide_eq_false hn]; exact h
      · rw [hi] at hnext
        apply TC_draw 9; kernel_rfl; exact Try.mixed
        · (refine' pv ?_; rotate_left)
          (refine' PG.val rfl rfl (by intro _X; refine TL_indexAddrA 0 rfl rfl rfl rfl (by omega) ?_; exact qe) ?_; rotate_left)
          iterate 3 (refine' pv ?_; rotate_left)
          (refine' PG.val rfl rfl (by intro _X; refine TL_nilCheck rfl rfl ?_; exact qe) ?_; rotate_left)
          (refine' pv ?_; rotate_left)
          (refine' PG.val rfl rfl (by intro _X; refine TL_indexAddrA 2 rfl rfl rfl (by omega) (by omega) ?_; exact qe) ?_; rotate_left)
          (refine' pv ?_; rotate_left)
          exact PG.nil
        change TL _ _ _ _ _ _ _ _ _ _ _
        repeat' (first | refine rn ?_ | (apply TL_box; exact rfl; exact rfl; exact rfl; intro _ _) | (apply TL_alloc; exact rfl; intro _ _) | (apply TL_buildSlice; exact rfl; exact rfl; exact rfl; exact rfl; exact rfl; intro _ _))
        refine TC_cond_dec rfl (fun h2 => ?_) (fun h2 => ?_)
        · have hn : n = 1 := by omega
          repeat' (first | refine rn ?_ | (apply TL_box; exact rfl; exact rfl; exact rfl; intro _ _) | (apply TL_alloc; exact rfl; intro _ _) | (apply TL_buildSlice; exact rfl; exact rfl; exact rfl; exact rfl; exact rfl; intro _ _))
          apply TC_draw 9; kernel_rfl; exact Try.mixed
          · (refine' pv ?_; rotate_left)
            (refine' PG.val rfl rfl (by intro _X; refine TL_nilCheck rfl rfl ?_; exact qe) ?_; rotate_left)
            iterate 5 (refine' pv ?_; rotate_left)
            (refine' PG.val rfl rfl (by intro _X; refine TL_nilCheck rfl rfl ?_; exact qe) ?_; rotate_left)
            (refine' pv ?_; rotate_left)
            exact PG.nil
          change TL _ _ _ _ _ _ _ _ _ _ _
          repeat' (first | refine rn ?_ | (apply TL_box; exact rfl; exact rfl; exact rfl; intro _ _) | (apply TL_alloc; exact rfl; intro _ _) | (apply TL_buildSlice; exact rfl; exact rfl; exact rfl; exact rfl; exact rfl; intro _ _))
          apply TC_draw 9; kernel_rfl; exact Try.mixed
          · (refine' pv ?_; rotate_left)
            (refine' PG.val rfl rfl (by intro _X; refine TL_nilCheck rfl rfl ?_; exact qe) ?_; rotate_left)
            iterate 5 (refine' pv ?_; rotate_left)
            (refine' PG.val rfl rfl (by intro _X; refine TL_nilCheck rfl rfl ?_; exact qe) ?_; rotate_left)
            (refine' pv ?_; rotate_left)
            exact PG.nil
          change TL _ _ _ _ _ _ _ _ _ _ _
          repeat' (first | refine rn ?_ | (apply TL_box; exact rfl; exact rfl; exact rfl; intro _ _) | (apply TL_alloc; exact rfl; intro _ _) | (apply TL_buildSlice; exact rfl; exact rfl; exact rfl; exact rfl; exact rfl; intro _ _))
          refine TQ_round (k + 1) hlt (by omega) sb (fun w h => ?_)
          rw [hnext, decide_eq_true hn]; exact h
        · have hn : ¬ n = 1 := by omega
          repeat' (first | refine rn ?_ | (apply TL_box; exact rfl; exact rfl; exact rfl; intro _ _) | (apply TL_alloc; exact rfl; intro _ _) | (apply TL_buildSlice; exact rfl; exact rfl; exact rfl; exact rfl; exact rfl; intro _ _))
          apply TC_draw 9; kernel_rfl; exact Try.mixed
          · (refine' pv ?_; rotate_left)
            (refine' PG.val rfl rfl (by intro _X; refine TL_nilCheck rfl rfl ?_; exact qe) ?_; rotate_left)
            iterate 5 (refine' pv ?_; rotate_left)
            (refine' PG.val rfl rfl (by intro _X; refine TL_nilCheck rfl rfl ?_; exact qe) ?_; rotate_left)
            (refine' pv ?_; rotate_left)
            exact PG.nil
          change TL _ _ _ _ _ _ _ _ _ _ _
          repeat' (first | refine rn ?_ | (apply TL_box; exact rfl; exact rfl; exact rfl; intro _ _) | (apply TL_alloc; exact rfl; intro _ _) | (apply TL_buildSlice; exact rfl; exact rfl; exact rfl; exact rfl; exact rfl; intro _ _))
          refine TQ_round (k + 1) hlt (by omega) sb (fun w h => ?_)
          rw [hnext, decide_eq_false hn]; exact h
    · have hkn : k = n := by omega
      rw [hpick hkn]
      simp only [InS] at hwB
      subst hkn
      obtain ⟨w1, w2⟩ := hw
      have c95' := fun w h => c95 (someP f d) (some ⟨b4, 0 + 4 + 7 + a * 1, none⟩) (3 - a) (by omega) hne w h
      have c96' := fun w h => c96 (someP f d) (some ⟨b4, 0 + 4 + 7 + a * 1, none⟩) (3 - a) (by omega) hne w h
      rw [hdone] at c95' c96'
      have hsl : ∀ {w : World} {H : Hp}, SH B w0 w H → (b4, .cells (encTr f b ao c) 110) ∈ H → Sl w 1 encI (some ⟨b4, 0 + 4 + 7 + a * 1, none⟩) (someP f d) := fun h hm => by
        have := Sl.prices h hm a k (by omega)
        unfold someP
        rwa [e5, e6]
      have c82' := fun ao c w ha => c82_2 yk.worth (minL (someP f d) * left.1, maxL (someP f d) * left.2) ao c w ha ⟨by simp only [Small]; omega, by simp only [Small]; omega⟩ ⟨by simp only [Small]; omega, by simp only [Small]; omega⟩
      repeat' (first | refine rn ?_ | (apply TL_box; exact rfl; exact rfl; exact rfl; intro _ _) | (apply TL_alloc; exact rfl; intro _ _) | (apply TL_buildSlice; exact rfl; exact rfl; exact rfl; exact rfl; exact rfl; intro _ _))
      apply TC_draw 20; kernel_rfl; exact Try.mixed
      · iterate 2 (refine' pv ?_; rotate_left)
        (refine' PG.val rfl rfl (by intro _X; refine TL_nilCheck rfl rfl ?_; exact qe) ?_; rotate_left)
        iterate 3 (refine' pv ?_; rotate_left)
        (refine' PG.val rfl rfl (by intro _X; refine TL_callV rfl rfl rfl (fun w h => c95' w (hsl h mm)) ?_; exact qe) ?_; rotate_left)
        iterate 4 (refine' pv ?_; rotate_left)
        (refine' PG.val rfl rfl (by intro _X; refine TL_callV rfl rfl rfl (fun w h => c96' w (hsl h mm)) ?_; exact qe) ?_; rotate_left)
        iterate 4 (refine' pv ?_; rotate_left)
        (refine' PG.rel ((fun v h => ∃ b, v = .slice (some ⟨b, 0, none⟩) 2 2 ∧ h = [(b, .cells (encSp yk.worth ++ [.int .i64 (minL (someP f d) * left.1), .int .i64 (maxL (someP f d) * left.2)]) 23)])) rfl rfl (by intro _X; apply TL_buildSlice; exact rfl; exact rfl; exact rfl; exact rfl; exact rfl; intro b _; exact TL_nil (TQ_QR (h := [(b, _)]) rfl ⟨b, rfl, rfl⟩ (fun _ h => h))) ?_; rotate_left)
        (refine' PG.val rfl rfl (by rintro _ _ ⟨b16, rfl, rfl⟩ _X; refine TL_callV rfl rfl rfl (fun w h => c82' _ _ w (Sl.of_blk h mm (fun _ _ => rfl) ⟨[], rfl⟩)) ?_; exact qe) ?_; rotate_left)
        (refine' PG.val rfl rfl (by intro _X; refine TL_nilCheck rfl rfl ?_; exact qe) ?_; rotate_left)
        (refine' pv ?_; rotate_left)
        exact PG.nil
      rintro _ _ ⟨b16, rfl, rfl⟩
      change TL _ _ _ _ _ _ _ _ _ _ _
      repeat' (first | refine rn ?_ | (apply TL_box; exact rfl; exact rfl; exact rfl; intro _ _) | (apply TL_alloc; exact rfl; intro _ _) | (apply TL_buildSlice; exact rfl; exact rfl; exact rfl; exact rfl; exact rfl; intro _ _))
      exact TQ_end0 Try.results80 (fun w' hs => ⟨(), trivial, rfl, hs.sub (by repeat (first | exact List.Sublist.refl _ | apply List.Sublist.cons))⟩)
end Go.Proofs.Ytccgplomnjpniaa
