/- Walks: slices.Min, slices.Max; what birds take. -/
import Derived.Test.YtccgplomnjpniaaE9
import Derived.Test.YtccgplomnjpniaaEng12
namespace Go.Proofs.Ytccgplomnjpniaa
open Go Go.Eng Go.RowKit Go.Proofs
set_option maxHeartbeats 1000000
set_option maxRecDepth 10000
attribute [local irreducible] TL TC TQ

def minL : List Int → Int
  | [] => 0
  | x :: l => l.foldl min x
def maxL : List Int → Int
  | [] => 0
  | x :: l => l.foldl max x
theorem fold_take {f : Int → Int → Int} (x : Int) : ∀ (l : List Int) (k : Nat) (y : Int), l[k]? = some y → (l.take (k + 1)).foldl f x = f ((l.take k).foldl f x) y := by
  intro l k y h
  rw [List.take_add_one, h, List.foldl_append]; rfl

theorem c95 (l : List Int) (ao : Option Addr) (c : Nat) (hl : l.length ≤ 1000000) (hne : l ≠ []) (w : World) (ha : Sl w 1 encI ao l) : Calls Try.prog 95 #[.slice ao l.length c] w (RetV w (.int .i64 (minL l))) := by
  obtain ⟨x0, l0, rfl⟩ : ∃ x l', l = x :: l' := by cases l with
    | nil => exact absurd rfl hne
    | cons x l => exact ⟨x, l, rfl⟩
  simp only [List.length_cons] at hl
  refine enter (args := [.slice ao (x0 :: l0).length c]) Try.func95 rfl Try.ntmps95 rfl (SH.refl _) ?_
  repeat' (first | (refine TL_lss_f rfl rfl rfl (by simp only [List.length_cons]; omega) ?_) | refine r1 ?_ | (apply TL_box; exact rfl; exact rfl; exact rfl; intro _ _) | (apply TL_alloc; exact rfl; intro _ _) | (apply TL_buildSlice; exact rfl; exact rfl; exact rfl; exact rfl; exact rfl; intro _ _))
  refine TL_index 0 rfl rfl rfl (fun w h => h.sl ha) rfl (by simp) (Nat.le_refl _) ?_
  refine TL_load_el1 (u := x0) rfl rfl (fun w h => h.sl ha) rfl rfl ?_
  repeat' (first | refine rn ?_ | (apply TL_box; exact rfl; exact rfl; exact rfl; intro _ _) | (apply TL_alloc; exact rfl; intro _ _) | (apply TL_buildSlice; exact rfl; exact rfl; exact rfl; exact rfl; exact rfl; intro _ _))
  refine TC_loop (σ := Nat) (fun k => k ≤ l0.length) (fun k => [(0, .slice ao (x0 :: l0).length c), (3, .int .i64 ((l0.take k).foldl min x0)), (4, .int .i64 ((k : Int) + 1))]) (fun _ => []) (fun k => l0.length - k) 0 (Nat.zero_le _) sb (fun w h => h) (fun k hk => ?_)
  repeat' (first | refine rn ?_ | (apply TL_box; exact rfl; exact rfl; exact rfl; intro _ _) | (apply TL_alloc; exact rfl; intro _ _) | (apply TL_buildSlice; exact rfl; exact rfl; exact rfl; exact rfl; exact rfl; intro _ _))
  refine TC_cond_dec rfl (fun h1 => ?_) (fun h1 => ?_)
  · simp only [List.length_cons] at h1
    have hlt : k < l0.length := by omega
    obtain ⟨y, hy⟩ : ∃ y, l0[k]? = some y := ⟨_, List.getElem?_eq_getElem hlt⟩
    repeat' (first | refine rn ?_ | (apply TL_box; exact rfl; exact rfl; exact rfl; intro _ _) | (apply TL_alloc; exact rfl; intro _ _) | (apply TL_buildSlice; exact rfl; exact rfl; exact rfl; exact rfl; exact rfl; intro _ _))
    refine TL_index (k + 1) rfl rfl rfl (fun w h => h.sl ha) (by omega) (by simp; omega) (Nat.le_refl _) ?_
    refine TL_load_el1 (u := y) rfl rfl (fun w h => h.sl ha) (by simpa using hy) rfl ?_
    repeat' (first | refine rn ?_ | (apply TL_box; exact rfl; exact rfl; exact rfl; intro _ _) | (apply TL_alloc; exact rfl; intro _ _) | (apply TL_buildSlice; exact rfl; exact rfl; exact rfl; exact rfl; exact rfl; intro _ _))
    have e := fold_take (f := min) x0 l0 k y hy
    refine TQ_round (k + 1) hlt (by omega) (Sub.cons rfl (Sub.cons (by rw [e]; rfl) (Sub.cons rfl (Sub.nil _)))) (fun w h => h)
  · simp only [List.length_cons] at h1
    have hk2 : k = l0.length := by omega
    subst hk2
    repeat' (first | refine rn ?_ | (apply TL_box; exact rfl; exact rfl; exact rfl; intro _ _) | (apply TL_alloc; exact rfl; intro _ _) | (apply TL_buildSlice; exact rfl; exact rfl; exact rfl; exact rfl; exact rfl; intro _ _))
    exact TQ_ret1 Try.results95 (RV.tmp rfl) (fun w' hs => ⟨by rw [List.take_length]; rfl, hs.below⟩)
theorem c96 (l : List Int) (ao : Option Addr) (c : Nat) (hl : l.length ≤ 1000000) (hne : l ≠ []) (w : World) (ha : Sl w 1 encI ao l) : Calls Try.prog 96 #[.slice ao l.length c] w (RetV w (.int .i64 (maxL l))) := by
  obtain ⟨x0, l0, rfl⟩ : ∃ x l', l = x :: l' := by cases l with
    | nil => exact absurd rfl hne
    | cons x l => exact ⟨x, l, rfl⟩
  simp only [List.length_cons] at hl
  refine enter (args := [.slice ao (x0 :: l0).length c]) Try.func96 rfl Try.ntmps96 rfl (SH.refl _) ?_
  repeat' (first | (refine TL_lss_f rfl rfl rfl (by simp only [List.length_cons]; omega) ?_) | refine r1 ?_ | (apply TL_box; exact rfl; exact rfl; exact rfl; intro _ _) | (apply TL_alloc; exact rfl; intro _ _) | (apply TL_buildSlice; exact rfl; exact rfl; exact rfl; exact rfl; exact rfl; intro _ _))
  refine TL_index 0 rfl rfl rfl (fun w h => h.sl ha) rfl (by simp) (Nat.le_refl _) ?_
  refine TL_load_el1 (u := x0) rfl rfl (fun w h => h.sl ha) rfl rfl ?_
  repeat' (first | refine rn ?_ | (apply TL_box; exact rfl; exact rfl; exact rfl; intro _ _) | (apply TL_alloc; exact rfl; intro _ _) | (apply TL_buildSlice; exact rfl; exact rfl; exact rfl; exact rfl; exact rfl; intro _ _))
  refine TC_loop (σ := Nat) (fun k => k ≤ l0.length) (fun k => [(0, .slice ao (x0 :: l0).length c), (3, .int .i64 ((l0.take k).foldl max x0)), (4, .int .i64 ((k : Int) + 1))]) (fun _ => []) (fun k => l0.length - k) 0 (Nat.zero_le _) sb (fun w h => h) (fun k hk => ?_)
  repeat' (first | refine rn ?_ | (apply TL_box; exact rfl; exact rfl; exact rfl; intro _ _) | (apply TL_alloc; exact rfl; intro _ _) | (apply TL_buildSlice; exact rfl; exact rfl; exact rfl; exact rfl; exact rfl; intro _ _))
  refine TC_cond_dec rfl (fun h1 => ?_) (fun h1 => ?_)
  · simp only [List.length_cons] at h1
    have hlt : k < l0.length := by omega
    obtain ⟨y, hy⟩ : ∃ y, l0[k]? = some y := ⟨_, List.getElem?_eq_getElem hlt⟩
    repeat' (first | refine rn ?_ | (apply TL_box; exact rfl; exact rfl; exact rfl; intro _ _) | (apply TL_alloc; exact rfl; intro _ _) | (apply TL_buildSlice; exact rfl; exact rfl; exact rfl; exact rfl; exact rfl; intro _ _))
    refine TL_index (k + 1) rfl rfl rfl (fun w h => h.sl ha) (by omega) (by simp; omega) (Nat.le_refl _) ?_
    refine TL_load_el1 (u := y) rfl rfl (fun w h => h.sl ha) (by simpa using hy) rfl ?_
    repeat' (first | refine rn ?_ | (apply TL_box; exact rfl; exact rfl; exact rfl; intro _ _) | (apply TL_alloc; exact rfl; intro _ _) | (apply TL_buildSlice; exact rfl; exact rfl; exact rfl; exact rfl; exact rfl; intro _ _))
    have e := fold_take (f := max) x0 l0 k y hy
    refine TQ_round (k + 1) hlt (by omega) (Sub.cons rfl (Sub.cons (by rw [e]; rfl) (Sub.cons rfl (Sub.nil _)))) (fun w h => h)
  · simp only [List.length_cons] at h1
    have hk2 : k = l0.length := by omega
    subst hk2
    repeat' (first | refine rn ?_ | (apply TL_box; exact rfl; exact rfl; exact rfl; intro _ _) | (apply TL_alloc; exact rfl; intro _ _) | (apply TL_buildSlice; exact rfl; exact rfl; exact rfl; exact rfl; exact rfl; intro _ _))
    exact TQ_ret1 Try.results96 (RV.tmp rfl) (fun w' hs => ⟨by rw [List.take_length]; rfl, hs.below⟩)

/-- A bunch at work, and its fruit. -/
def encTr (f : Ft) (b : Bn) (ao : Option Addr) (c : Nat) : List Value := [.slice ao b.ripe.length c, .int .i64 b.birds.1, .int .i64 b.birds.2, .bool b.cov, .int .i64 f.wet.1, .int .i64 f.wet.2, .int .i64 f.dry.1, .int .i64 f.dry.2, .int .i64 f.soft, .int .i64 f.half, .int .i64 f.keep, .int .i64 f.p0, .int .i64 f.p1, .int .i64 f.p2]
/-- How many birds eat at least, at most, on some days. -/
def bLo (b : Bn) (d : Int) : Int := if b.cov = true then 0 else d * b.birds.1
def bHi (b : Bn) (d : Int) : Int := if b.cov = true then 0 else d * b.birds.2
def takenR (b : Bn) (s : Sp) (d : Int) : Sp := (min s.1 (bLo b d), min s.2 (bHi b d))
def leftR (b : Bn) (s : Sp) (d : Int) : Sp := (max (s.1 - bHi b d) 0, max (s.2 - bLo b d) 0)
structure BirdB (b : Bn) (s : Sp) (d : Int) : Prop where
  a : 0 ≤ d * b.birds.1 ∧ d * b.birds.1 ≤ 1000000
  b : 0 ≤ d * b.birds.2 ∧ d * b.birds.2 ≤ 1000000
  c : 0 ≤ s.1 ∧ s.1 ≤ 100000
  e : 0 ≤ s.2 ∧ s.2 ≤ 100000

theorem c85 (f : Ft) (b : Bn) (ao : Option Addr) (c : Nat) (s : Sp) (d : Int) (hb : BirdB b s d) (w : World) : Calls Try.prog 85 #[.agg (encTr f b ao c).toArray, .agg (encSp s).toArray, .int .i64 d] w
    (RetV w (.tuple #[.agg (encSp (takenR b s d)).toArray, .agg (encSp (leftR b s d)).toArray])) := by
  obtain ⟨b1, b2, b3, b4⟩ := hb
  refine enter (args := [.agg (encTr f b ao c).toArray, .agg (encSp s).toArray, .int .i64 d]) Try.func85 rfl Try.ntmps85 rfl (SH.refl _) ?_
  repeat' (first | refine rn ?_ | (apply TL_box; exact rfl; exact rfl; exact rfl; intro _ _) | (apply TL_alloc; exact rfl; intro _ _) | (apply TL_buildSlice; exact rfl; exact rfl; exact rfl; exact rfl; exact rfl; intro _ _))
  rename_i b3 _ b4 _ b6 _ b7 _
  refine TC_cond rfl (fun h1 => ?_) (fun h1 => ?_)
  · have e1 : takenR b s d = (min s.1 (0 * b.birds.1), min s.2 (0 * b.birds.2)) := by unfold takenR bLo bHi; rw [if_pos h1, if_pos h1]; simp
    have e2 : leftR b s d = (max (s.1 - 0 * b.birds.2) 0, max (s.2 - 0 * b.birds.1) 0) := by unfold leftR bLo bHi; rw [if_pos h1, if_pos h1]; simp
    repeat' (first | refine rn ?_ | (apply TL_box; exact rfl; exact rfl; exact rfl; intro _ _) | (apply TL_alloc; exact rfl; intro _ _) | (apply TL_buildSlice; exact rfl; exact rfl; exact rfl; exact rfl; exact rfl; intro _ _))
    apply TC_draw 14; kernel_rfl; exact Try.mixed
    · iterate 14 (refine' pv ?_; rotate_left)
      exact PG.nil
    change TL _ _ _ _ _ _ _ _ _ _ _
    repeat' (first | refine rn ?_ | (apply TL_box; exact rfl; exact rfl; exact rfl; intro _ _) | (apply TL_alloc; exact rfl; intro _ _) | (apply TL_buildSlice; exact rfl; exact rfl; exact rfl; exact rfl; exact rfl; intro _ _))
    apply TC_draw2 21 20 0 1; exact rfl; kernel_rfl; exact rfl; exact Try.mixed
    · iterate 20 (refine' pv2 ?_; rotate_left)
      (refine' PG2.sto ([(b6, .cells (encSp (min s.1 (0 * b.birds.1), min s.2 (0 * b.birds.2))) 23)]) rfl rfl (by intro _X; refine r1 ?_; exact TL_nil (TQ_QD (fun _ h => h))) ?_; rotate_left)
      exact PG2.nil
    rintro _ _ rfl
    change TL _ _ _ _ _ _ _ _ _ _ _
    repeat' (first | refine rn ?_ | (apply TL_box; exact rfl; exact rfl; exact rfl; intro _ _) | (apply TL_alloc; exact rfl; intro _ _) | (apply TL_buildSlice; exact rfl; exact rfl; exact rfl; exact rfl; exact rfl; intro _ _))
    exact TQ_ret2 Try.results85 (RV.celln rfl mm (by rfl)) (RV.celln rfl mm (by rfl)) (fun w' hs => ⟨by rw [e1, e2]; rfl, hs.below⟩)
  · have e1 : takenR b s d = (min s.1 (d * b.birds.1), min s.2 (d * b.birds.2)) := by unfold takenR bLo bHi; rw [if_neg (by simp [h1]), if_neg (by simp [h1])]
    have e2 : leftR b s d = (max (s.1 - d * b.birds.2) 0, max (s.2 - d * b.birds.1) 0) := by unfold leftR bLo bHi; rw [if_neg (by simp [h1]), if_neg (by simp [h1])]
    repeat' (first | refine rn ?_ | (apply TL_box; exact rfl; exact rfl; exact rfl; intro _ _) | (apply TL_alloc; exact rfl; intro _ _) | (apply TL_buildSlice; exact rfl; exact rfl; exact rfl; exact rfl; exact rfl; intro _ _))
    apply TC_draw 14; kernel_rfl; exact Try.mixed
    · iterate 14 (refine' pv ?_; rotate_left)
      exact PG.nil
    change TL _ _ _ _ _ _ _ _ _ _ _
    repeat' (first | refine rn ?_ | (apply TL_box; exact rfl; exact rfl; exact rfl; intro _ _) | (apply TL_alloc; exact rfl; intro _ _) | (apply TL_buildSlice; exact rfl; exact rfl; exact rfl; exact rfl; exact rfl; intro _ _))
    apply TC_draw2 21 20 0 1; exact rfl; kernel_rfl; exact rfl; exact Try.mixed
    · iterate 20 (refine' pv2 ?_; rotate_left)
      (refine' PG2.sto ([(b6, .cells (encSp (min s.1 (d * b.birds.1), min s.2 (d * b.birds.2))) 23)]) rfl rfl (by intro _X; refine r1 ?_; exact TL_nil (TQ_QD (fun _ h => h))) ?_; rotate_left)
      exact PG2.nil
    rintro _ _ rfl
    change TL _ _ _ _ _ _ _ _ _ _ _
    repeat' (first | refine rn ?_ | (apply TL_box; exact rfl; exact rfl; exact rfl; intro _ _) | (apply TL_alloc; exact rfl; intro _ _) | (apply TL_buildSlice; exact rfl; exact rfl; exact rfl; exact rfl; exact rfl; intro _ _))
    exact TQ_ret2 Try.results85 (RV.celln rfl mm (by rfl)) (RV.celln rfl mm (by rfl)) (fun w' hs => ⟨by rw [e1, e2]; rfl, hs.below⟩)

theorem c86 (b : Bn) (ao : Option Addr) (c : Nat) (s : Sp) (d : Int) (hb : BirdB b s d) (w : World) : Calls Try.prog 86 #[.agg (encBn b ao c).toArray, .agg (encSp s).toArray, .int .i64 d] w
    (RetV w (.tuple #[.agg (encSp (takenR b s d)).toArray, .agg (encSp (leftR b s d)).toArray])) := by
  obtain ⟨b1, b2, b3, b4⟩ := hb
  refine enter (args := [.agg (encBn b ao c).toArray, .agg (encSp s).toArray, .int .i64 d]) Try.func86 rfl Try.ntmps86 rfl (SH.refl _) ?_
  repeat' (first | refine rn ?_ | (apply TL_box; exact rfl; exact rfl; exact rfl; intro _ _) | (apply TL_alloc; exact rfl; intro _ _) | (apply TL_buildSlice; exact rfl; exact rfl; exact rfl; exact rfl; exact rfl; intro _ _))
  rename_i b3 _ b4 _ b6 _ b7 _
  apply TC_draw 12; kernel_rfl; exact Try.mixed
  · iterate 12 (refine' pv ?_; rotate_left)
    exact PG.nil
  change TL _ _ _ _ _ _ _ _ _ _ _
  repeat' (first | refine rn ?_ | (apply TL_box; exact rfl; exact rfl; exact rfl; intro _ _) | (apply TL_alloc; exact rfl; intro _ _) | (apply TL_buildSlice; exact rfl; exact rfl; exact rfl; exact rfl; exact rfl; intro _ _))
  refine TC_cond rfl (fun h1 => ?_) (fun h1 => ?_)
  · have e1 : takenR b s d = (min s.1 0, min s.2 0) := by unfold takenR bLo bHi; rw [if_pos h1, if_pos h1]
    have e2 : leftR b s d = (max 0 (s.1 - 0), max 0 (s.2 - 0)) := by unfold leftR bLo bHi; rw [if_pos h1, if_pos h1, Int.max_comm 0, Int.max_comm 0]
    repeat' (first | refine rn ?_ | (apply TL_box; exact rfl; exact rfl; exact rfl; intro _ _) | (apply TL_alloc; exact rfl; intro _ _) | (apply TL_buildSlice; exact rfl; exact rfl; exact rfl; exact rfl; exact rfl; intro _ _))
    apply TC_draw2 21 20 0 1; exact rfl; kernel_rfl; exact rfl; exact Try.mixed
    · iterate 20 (refine' pv2 ?_; rotate_left)
      (refine' PG2.sto ([(b6, .cells (encSp (min s.1 0, min s.2 0)) 23)]) rfl rfl (by intro _X; refine r1 ?_; exact TL_nil (TQ_QD (fun _ h => h))) ?_; rotate_left)
      exact PG2.nil
    rintro _ _ rfl
    change TL _ _ _ _ _ _ _ _ _ _ _
    repeat' (first | refine rn ?_ | (apply TL_box; exact rfl; exact rfl; exact rfl; intro _ _) | (apply TL_alloc; exact rfl; intro _ _) | (apply TL_buildSlice; exact rfl; exact rfl; exact rfl; exact rfl; exact rfl; intro _ _))
    exact TQ_ret2 Try.results86 (RV.celln rfl mm (by rfl)) (RV.celln rfl mm (by rfl)) (fun w' hs => ⟨by rw [e1, e2]; rfl, hs.below⟩)
  · have e1 : takenR b s d = (min s.1 (d * b.birds.1), min s.2 (d * b.birds.2)) := by unfold takenR bLo bHi; rw [if_neg (by simp [h1]), if_neg (by simp [h1])]
    have e2 : leftR b s d = (max 0 (s.1 - d * b.birds.2), max 0 (s.2 - d * b.birds.1)) := by unfold leftR bLo bHi; rw [if_neg (by simp [h1]), if_neg (by simp [h1]), Int.max_comm 0, Int.max_comm 0]
    repeat' (first | refine rn ?_ | (apply TL_box; exact rfl; exact rfl; exact rfl; intro _ _) | (apply TL_alloc; exact rfl; intro _ _) | (apply TL_buildSlice; exact rfl; exact rfl; exact rfl; exact rfl; exact rfl; intro _ _))
    apply TC_draw2 21 20 0 1; exact rfl; kernel_rfl; exact rfl; exact Try.mixed
    · iterate 20 (refine' pv2 ?_; rotate_left)
      (refine' PG2.sto ([(b6, .cells (encSp (min s.1 (d * b.birds.1), min s.2 (d * b.birds.2))) 23)]) rfl rfl (by intro _X; refine r1 ?_; exact TL_nil (TQ_QD (fun _ h => h))) ?_; rotate_left)
      exact PG2.nil
    rintro _ _ rfl
    change TL _ _ _ _ _ _ _ _ _ _ _
    repeat' (first | refine rn ?_ | (apply TL_box; exact rfl; exact rfl; exact rfl; intro _ _) | (apply TL_alloc; exact rfl; intro _ _) | (apply TL_buildSlice; exact rfl; exact rfl; exact rfl; exact rfl; exact rfl; intro _ _))
    exact TQ_ret2 Try.results86 (RV.celln rfl mm (by rfl)) (RV.celln rfl mm (by rfl)) (fun w' hs => ⟨by rw [e1, e2]; rfl, hs.below⟩)
end Go.Proofs.Ytccgplomnjpniaa
