/- Walks: the number of an error as a text; the statement LevelExamples. -/
import Derived.Test.YtoolblbdmmiahaaDoorL21
import Derived.Test.YtoolblbdmmiahaaDoorEngS2
namespace Go.Proofs.YtoolblbdmmiahaaDoor
open Go Go.Eng Go.RowKit Go.Proofs
set_option maxHeartbeats 4000000
set_option maxRecDepth 10000
attribute [local irreducible] TL TC TQ

def s11 : ByteArray := ⟨#[49, 49]⟩
theorem e39 (w : World) : Calls Tryd.prog 39 #[.int .i64 11] w (RetV w (.string s11)) := by
  refine enter (args := [.int .i64 11]) Tryd.func39 rfl Tryd.ntmps39 rfl (SH.refl _) ?_
  repeat' (first | refine rn ?_ | (apply TL_box; exact rfl; exact rfl; exact rfl; intro _ _) | (apply TL_alloc; exact rfl; intro _ _) | (apply TL_buildSlice; exact rfl; exact rfl; exact rfl; exact rfl; exact rfl; intro _ _))
  refine TL_sliceStr 22 24 rfl Tryd.underlying9 rfl rfl rfl rfl rfl (by omega) (by kernel_rfl) (u := s11) (by kernel_rfl) ?_
  repeat' (first | refine rn ?_ | (apply TL_box; exact rfl; exact rfl; exact rfl; intro _ _) | (apply TL_alloc; exact rfl; intro _ _) | (apply TL_buildSlice; exact rfl; exact rfl; exact rfl; exact rfl; exact rfl; intro _ _))
  exact TQ_ret1 Tryd.results39 (RV.tmp rfl) (fun w' hs => ⟨rfl, hs.below⟩)
theorem e38 (w : World) : Calls Tryd.prog 38 #[.int .i64 11, .int .i64 10] w (RetV w (.string s11)) := by
  refine enter (args := [.int .i64 11, .int .i64 10]) Tryd.func38 rfl Tryd.ntmps38 rfl (SH.refl _) ?_
  repeat' (first | refine rn ?_ | (apply TL_box; exact rfl; exact rfl; exact rfl; intro _ _) | (apply TL_alloc; exact rfl; intro _ _) | (apply TL_buildSlice; exact rfl; exact rfl; exact rfl; exact rfl; exact rfl; intro _ _))
  refine TL_callV rfl rfl rfl (fun w _ => e39 w) ?_
  repeat' (first | refine rn ?_ | (apply TL_box; exact rfl; exact rfl; exact rfl; intro _ _) | (apply TL_alloc; exact rfl; intro _ _) | (apply TL_buildSlice; exact rfl; exact rfl; exact rfl; exact rfl; exact rfl; intro _ _))
  exact TQ_ret1 Tryd.results38 (RV.tmp rfl) (fun w' hs => ⟨rfl, hs.below⟩)
theorem e35 (w : World) : Calls Tryd.prog 35 #[.int .i64 11] w (RetV w (.string s11)) := by
  refine enter (args := [.int .i64 11]) Tryd.func35 rfl Tryd.ntmps35 rfl (SH.refl _) ?_
  repeat' (first | refine rn ?_ | (apply TL_box; exact rfl; exact rfl; exact rfl; intro _ _) | (apply TL_alloc; exact rfl; intro _ _) | (apply TL_buildSlice; exact rfl; exact rfl; exact rfl; exact rfl; exact rfl; intro _ _))
  refine TL_callV rfl rfl rfl (fun w _ => e38 w) ?_
  repeat' (first | refine rn ?_ | (apply TL_box; exact rfl; exact rfl; exact rfl; intro _ _) | (apply TL_alloc; exact rfl; intro _ _) | (apply TL_buildSlice; exact rfl; exact rfl; exact rfl; exact rfl; exact rfl; intro _ _))
  exact TQ_ret1 Tryd.results35 (RV.tmp rfl) (fun w' hs => ⟨rfl, hs.below⟩)
theorem e28 (w : World) : Calls Tryd.prog 28 #[.int .i64 11] w (RetV w (.string s11)) := by
  refine enter (args := [.int .i64 11]) Tryd.func28 rfl Tryd.ntmps28 rfl (SH.refl _) ?_
  repeat' (first | refine rn ?_ | (apply TL_box; exact rfl; exact rfl; exact rfl; intro _ _) | (apply TL_alloc; exact rfl; intro _ _) | (apply TL_buildSlice; exact rfl; exact rfl; exact rfl; exact rfl; exact rfl; intro _ _))
  refine TL_callV rfl rfl rfl (fun w _ => e35 w) ?_
  repeat' (first | refine rn ?_ | (apply TL_box; exact rfl; exact rfl; exact rfl; intro _ _) | (apply TL_alloc; exact rfl; intro _ _) | (apply TL_buildSlice; exact rfl; exact rfl; exact rfl; exact rfl; exact rfl; intro _ _))
  exact TQ_ret1 Tryd.results28 (RV.tmp rfl) (fun w' hs => ⟨rfl, hs.below⟩)
def sErr : ByteArray := ⟨#[101, 114, 114, 111, 114, 32, 49, 49]⟩
theorem e16 (w : World) : Calls Tryd.prog 16 #[.int .i64 11] w (RetV w (.string sErr)) := by
  refine enter (args := [.int .i64 11]) Tryd.func16 rfl Tryd.ntmps16 rfl (SH.refl _) ?_
  repeat' (first | refine rn ?_ | (apply TL_box; exact rfl; exact rfl; exact rfl; intro _ _) | (apply TL_alloc; exact rfl; intro _ _) | (apply TL_buildSlice; exact rfl; exact rfl; exact rfl; exact rfl; exact rfl; intro _ _))
  refine TL_callV rfl rfl rfl (fun w _ => e28 w) ?_
  refine TL_addStr rfl rfl rfl (u := sErr) (by kernel_rfl) (by kernel_rfl) ?_
  repeat' (first | refine rn ?_ | (apply TL_box; exact rfl; exact rfl; exact rfl; intro _ _) | (apply TL_alloc; exact rfl; intro _ _) | (apply TL_buildSlice; exact rfl; exact rfl; exact rfl; exact rfl; exact rfl; intro _ _))
  exact TQ_ret1 Tryd.results16 (RV.tmp rfl) (fun w' hs => ⟨rfl, hs.below⟩)
def two0 : Sv := ⟨2, [⟨0, 1, (0, 0)⟩, ⟨1, 0, (1, 1)⟩], [], []⟩
def zero0 : Sv := ⟨0, [], [], []⟩
theorem ft' {i k : Nat} (hi : i < 5) (hk : k < 5) {v : Int} (h1 : ∀ h, F0 falaj0 h → h k - h i ≤ v) (h2 : ∃ h, F0 falaj0 h ∧ h k - h i = v) : tbl falaj0 i k = v := tbl_eq falaj_ok falaj_true hi hk h1 h2
theorem t03 : tbl falaj0 0 3 = -170 := ft' (by omega) (by omega) (fun h hh => by rw [F0_falaj] at hh; omega) ⟨h4 1000 900 850 830, F0_falaj.2 (by simp only [h4]; omega), by simp only [h4]; omega⟩
theorem t30 : tbl falaj0 3 0 = 190 := ft' (by omega) (by omega) (fun h hh => by rw [F0_falaj] at hh; omega) ⟨h4 1000 890 840 810, F0_falaj.2 (by simp only [h4]; omega), by simp only [h4]; omega⟩
theorem x1 : fallF falaj0 2 1 = ((-55, -45), 0) := by
  unfold fallF
  rw [if_neg (not_not_intro falaj_ok), if_neg (by decide), if_pos falaj_true]
  simp [fallR, t12, t21]
theorem x2 : fallF falaj0 0 3 = ((170, 190), 0) := by
  unfold fallF
  rw [if_neg (not_not_intro falaj_ok), if_neg (by decide), if_pos falaj_true]
  simp [fallR, t03, t30]
theorem x3 : loopR falaj0 [0, 1, 3] = ((0, 0), 6) := by decide
theorem x4 : widenF falaj0 = (0, 0) := by rw [widenF_ok falaj_ok, widen_zero falaj_ok falaj_true]
theorem x5 : clashI falaj0 = ([], 6) := clashI_ok falaj_ok falaj_true
theorem x6 : heightsF crook0 = ([], 11) := by
  unfold heightsF; rw [if_neg (not_not_intro crook_ok), if_neg (by rw [crook_false]; simp)]
theorem x7 : fallF crook0 0 0 = ((0, 0), 11) := by
  unfold fallF; rw [if_neg (not_not_intro crook_ok), if_neg (by decide), if_neg (by rw [crook_false]; simp)]
theorem x8 : fallF crook0 0 4 = ((0, 0), 2) := by
  unfold fallF; rw [if_neg (not_not_intro crook_ok), if_pos (by decide)]
theorem x9 : slopeF falaj0 1 = ((0, 0), 12) := by
  unfold slopeF; rw [if_neg (not_not_intro falaj_ok), if_pos (by decide)]
theorem x10 : runsF falaj0 [0, 4] = ([], 2) := by
  unfold runsF; rw [if_neg (not_not_intro falaj_ok), if_neg (by decide), if_pos (by decide)]
def many0 : List Int := List.replicate 21 0
theorem x11 : runsF falaj0 many0 = ([], 4) := by
  unfold runsF; rw [if_neg (not_not_intro falaj_ok), if_pos (by decide)]
theorem x12 : loopR falaj0 [1] = ((0, 0), 2) := by decide
theorem x13 : loopR two0 [0, 1] = ((0, 0), 11) := by decide
theorem x14 : checkS zero0 = 10 := checkS_no (by decide)
theorem noneAt (w : World) (S : Sv) (h1 : S.shots = []) (h2 : S.marks = []) (h3 : S.thr = []) (p : Pl) : SvAt w S p := ⟨by rw [h1]; exact Sl.nil _ _ _ _, by rw [h2]; exact Sl.nil _ _ _ _, by rw [h3]; exact Sl.nil _ _ _ _⟩
theorem c3x (w : World) : Calls Tryd.prog 3 #[] w (RetV w (.bool true)) := by
  have f1 := fun p w h => c18 falaj0 p 2 1 (by decide) (by decide) (by decide) w h
  rw [x1] at f1
  have f2 := fun p w h => c18 falaj0 p 0 3 (by decide) (by decide) (by decide) w h
  rw [x2] at f2
  have f3 := fun p ao w h hb => c24 falaj0 p [0, 1, 3] ao 3 (by decide) (by decide) (by decide) (by decide) w h hb
  rw [x3] at f3
  have f4 := fun p w h => c28 falaj0 p (by decide) (by decide) (by decide) w h
  rw [x4] at f4
  have f5 := fun p w h => c26 falaj0 p (by decide) (by decide) (by decide) w h
  rw [x5] at f5
  have f6 := fun p w h => c16 crook0 p (by decide) (by decide) (by decide) w h
  rw [x6] at f6
  have f7 := fun p w h => c18 crook0 p 0 0 (by decide) (by decide) (by decide) w h
  rw [x7] at f7
  have f8 := fun p w h => c18 crook0 p 0 4 (by decide) (by decide) (by decide) w h
  rw [x8] at f8
  have f9 := fun p w h => c31 falaj0 p 1 (by decide) (by decide) (by decide) w h
  rw [x9] at f9
  have f10 := fun p ao w h hb => c33 falaj0 p [0, 4] ao 2 (by decide) (by decide) (by decide) (by decide) w h hb
  rw [x10] at f10
  have f11 := fun p ao w h hb => c33 falaj0 p many0 ao 21 (by decide) (by decide) (by decide) (by decide) w h hb
  rw [x11] at f11
  have f12 := fun p ao w h hb => c24 falaj0 p [1] ao 1 (by decide) (by decide) (by decide) (by decide) w h hb
  rw [x12] at f12
  have f13 := fun p ao w h hb => c24 two0 p [0, 1] ao 2 (by decide) (by decide) (by decide) (by decide) w h hb
  rw [x13] at f13
  have f14 := fun p w h => c20 zero0 p (by decide) (by decide) (by decide) w h
  rw [x14] at f14
  refine enter (args := []) Tryd.func3 rfl Tryd.ntmps3 rfl (SH.refl _) ?_
  repeat' (first | refine rn ?_ | (apply TL_box; exact rfl; exact rfl; exact rfl; intro _ _) | (apply TL_alloc; exact rfl; intro _ _) | (apply TL_buildSlice; exact rfl; exact rfl; exact rfl; exact rfl; exact rfl; intro _ _))
  refine TL_callV rfl rfl rfl (fun w _ => c35 w) ?_
  repeat' (first | refine rn ?_ | (apply TL_box; exact rfl; exact rfl; exact rfl; intro _ _) | (apply TL_alloc; exact rfl; intro _ _) | (apply TL_buildSlice; exact rfl; exact rfl; exact rfl; exact rfl; exact rfl; intro _ _))
  refine TL_callN rfl rfl rfl (fun w _ => c62 w) ?_
  rintro q1 -
  change TL _ _ _ _ _ _ _ _ _ _ _
  refine TL_callV rfl rfl rfl (fun w h => f1 (svP falaj0 q1) w (svOf h (fun x hx => by repeat (first | exact List.mem_append_left _ hx | apply List.mem_append_right | apply List.mem_cons_of_mem)))) ?_
  repeat' (first | refine rn ?_ | (apply TL_box; exact rfl; exact rfl; exact rfl; intro _ _) | (apply TL_alloc; exact rfl; intro _ _) | (apply TL_buildSlice; exact rfl; exact rfl; exact rfl; exact rfl; exact rfl; intro _ _))
  refine TL_callN rfl rfl rfl (fun w _ => c62 w) ?_
  rintro q2 -
  change TL _ _ _ _ _ _ _ _ _ _ _
  refine TL_callV rfl rfl rfl (fun w h => f2 (svP falaj0 q2) w (svOf h (fun x hx => by repeat (first | exact List.mem_append_left _ hx | apply List.mem_append_right | apply List.mem_cons_of_mem)))) ?_
  repeat' (first | refine rn ?_ | (apply TL_box; exact rfl; exact rfl; exact rfl; intro _ _) | (apply TL_alloc; exact rfl; intro _ _) | (apply TL_buildSlice; exact rfl; exact rfl; exact rfl; exact rfl; exact rfl; intro _ _))
  refine TL_callN rfl rfl rfl (fun w _ => c62 w) ?_
  rintro q3 -
  change TL _ _ _ _ _ _ _ _ _ _ _
  repeat' (first | refine rn ?_ | (apply TL_box; exact rfl; exact rfl; exact rfl; intro _ _) | (apply TL_alloc; exact rfl; intro _ _) | (apply TL_buildSlice; exact rfl; exact rfl; exact rfl; exact rfl; exact rfl; intro _ _))
  refine TL_callV rfl rfl rfl (fun w h => f3 (svP falaj0 q3) _ w (svOf h (fun x hx => by repeat (first | exact List.mem_append_left _ hx | apply List.mem_append_right | apply List.mem_cons_of_mem))) (Sl.of_blk h mm (fun _ _ => rfl) ⟨[], rfl⟩)) ?_
  repeat' (first | refine rn ?_ | (apply TL_box; exact rfl; exact rfl; exact rfl; intro _ _) | (apply TL_alloc; exact rfl; intro _ _) | (apply TL_buildSlice; exact rfl; exact rfl; exact rfl; exact rfl; exact rfl; intro _ _))
  refine TL_callN rfl rfl rfl (fun w _ => c62 w) ?_
  rintro q4 -
  change TL _ _ _ _ _ _ _ _ _ _ _
  refine TL_callV rfl rfl rfl (fun w h => f4 (svP falaj0 q4) w (svOf h (fun x hx => by repeat (first | exact List.mem_append_left _ hx | apply List.mem_append_right | apply List.mem_cons_of_mem)))) ?_
  repeat' (first | refine rn ?_ | (apply TL_box; exact rfl; exact rfl; exact rfl; intro _ _) | (apply TL_alloc; exact rfl; intro _ _) | (apply TL_buildSlice; exact rfl; exact rfl; exact rfl; exact rfl; exact rfl; intro _ _))
  refine TL_callN rfl rfl rfl (fun w _ => c62 w) ?_
  rintro q5 -
  change TL _ _ _ _ _ _ _ _ _ _ _
  refine TL_callN rfl rfl rfl (fun w h => f5 (svP falaj0 q5) w (svOf h (fun x hx => by repeat (first | exact List.mem_append_left _ hx | apply List.mem_append_right | apply List.mem_cons_of_mem)))) ?_
  rintro ⟨so5, sc5, ob5⟩ hrow5
  change TL _ _ _ _ _ _ _ _ _ _ _
  dsimp only
  repeat' (first | refine rn ?_ | (apply TL_box; exact rfl; exact rfl; exact rfl; intro _ _) | (apply TL_alloc; exact rfl; intro _ _) | (apply TL_buildSlice; exact rfl; exact rfl; exact rfl; exact rfl; exact rfl; intro _ _))
  apply TC_draw 32; kernel_rfl; exact Tryd.mixed
  · iterate 3 (refine' pv ?_; rotate_left)
    (refine' pg ?_; rotate_left)
    (refine' PG.val rfl rfl (by intro _X; (refine TL_guard_yes rfl rfl rfl ?_); refine TL_callV rfl rfl rfl (fun w _ => c39 (-55) (-45) w) ?_; exact qe) ?_; rotate_left)
    (refine' PG.val rfl rfl (by intro _X; (refine TL_guard_yes rfl rfl rfl ?_); refine TL_neqS_same rfl rfl rfl rfl rfl rfl rfl ?_; exact qe) ?_; rotate_left)
    iterate 2 (refine' pv ?_; rotate_left)
    iterate 2 (refine' pg ?_; rotate_left)
    iterate 2 (refine' pv ?_; rotate_left)
    (refine' pg ?_; rotate_left)
    (refine' PG.val rfl rfl (by intro _X; (refine TL_guard_yes rfl rfl rfl ?_); refine TL_callV rfl rfl rfl (fun w _ => c39 170 190 w) ?_; exact qe) ?_; rotate_left)
    (refine' PG.val rfl rfl (by intro _X; (refine TL_guard_yes rfl rfl rfl ?_); refine TL_neqS_same rfl rfl rfl rfl rfl rfl rfl ?_; exact qe) ?_; rotate_left)
    iterate 2 (refine' pv ?_; rotate_left)
    iterate 2 (refine' pg ?_; rotate_left)
    iterate 2 (refine' pv ?_; rotate_left)
    iterate 2 (refine' pg ?_; rotate_left)
    iterate 2 (refine' pv ?_; rotate_left)
    iterate 2 (refine' pg ?_; rotate_left)
    iterate 2 (refine' pv ?_; rotate_left)
    iterate 2 (refine' pg ?_; rotate_left)
    (refine' pv ?_; rotate_left)
    exact PG.nil
  change TL _ _ _ _ _ _ _ _ _ _ _
  repeat' (first | refine rn ?_ | (apply TL_box; exact rfl; exact rfl; exact rfl; intro _ _) | (apply TL_alloc; exact rfl; intro _ _) | (apply TL_buildSlice; exact rfl; exact rfl; exact rfl; exact rfl; exact rfl; intro _ _))
  refine TL_callN rfl rfl rfl (fun w _ => c63 w) ?_
  rintro q6 -
  change TL _ _ _ _ _ _ _ _ _ _ _
  refine TL_callN rfl rfl rfl (fun w h => f6 (svP crook0 q6) w (svOf h (fun x hx => by repeat (first | exact List.mem_append_left _ hx | apply List.mem_append_right | apply List.mem_cons_of_mem)))) ?_
  rintro ⟨so6, sc6, ob6⟩ hrow6
  change TL _ _ _ _ _ _ _ _ _ _ _
  dsimp only
  repeat' (first | refine rn ?_ | (apply TL_box; exact rfl; exact rfl; exact rfl; intro _ _) | (apply TL_alloc; exact rfl; intro _ _) | (apply TL_buildSlice; exact rfl; exact rfl; exact rfl; exact rfl; exact rfl; intro _ _))
  refine TL_callN rfl rfl rfl (fun w _ => c63 w) ?_
  rintro q7 -
  change TL _ _ _ _ _ _ _ _ _ _ _
  refine TL_callV rfl rfl rfl (fun w h => f7 (svP crook0 q7) w (svOf h (fun x hx => by repeat (first | exact List.mem_append_left _ hx | apply List.mem_append_right | apply List.mem_cons_of_mem)))) ?_
  repeat' (first | refine rn ?_ | (apply TL_box; exact rfl; exact rfl; exact rfl; intro _ _) | (apply TL_alloc; exact rfl; intro _ _) | (apply TL_buildSlice; exact rfl; exact rfl; exact rfl; exact rfl; exact rfl; intro _ _))
  refine TL_callN rfl rfl rfl (fun w _ => c63 w) ?_
  rintro q8 -
  change TL _ _ _ _ _ _ _ _ _ _ _
  refine TL_callV rfl rfl rfl (fun w h => f8 (svP crook0 q8) w (svOf h (fun x hx => by repeat (first | exact List.mem_append_left _ hx | apply List.mem_append_right | apply List.mem_cons_of_mem)))) ?_
  repeat' (first | refine rn ?_ | (apply TL_box; exact rfl; exact rfl; exact rfl; intro _ _) | (apply TL_alloc; exact rfl; intro _ _) | (apply TL_buildSlice; exact rfl; exact rfl; exact rfl; exact rfl; exact rfl; intro _ _))
  refine TL_callN rfl rfl rfl (fun w _ => c62 w) ?_
  rintro q9 -
  change TL _ _ _ _ _ _ _ _ _ _ _
  refine TL_callV rfl rfl rfl (fun w h => f9 (svP falaj0 q9) w (svOf h (fun x hx => by repeat (first | exact List.mem_append_left _ hx | apply List.mem_append_right | apply List.mem_cons_of_mem)))) ?_
  repeat' (first | refine rn ?_ | (apply TL_box; exact rfl; exact rfl; exact rfl; intro _ _) | (apply TL_alloc; exact rfl; intro _ _) | (apply TL_buildSlice; exact rfl; exact rfl; exact rfl; exact rfl; exact rfl; intro _ _))
  refine TL_callN rfl rfl rfl (fun w _ => c62 w) ?_
  rintro q10 -
  change TL _ _ _ _ _ _ _ _ _ _ _
  repeat' (first | refine rn ?_ | (apply TL_box; exact rfl; exact rfl; exact rfl; intro _ _) | (apply TL_alloc; exact rfl; intro _ _) | (apply TL_buildSlice; exact rfl; exact rfl; exact rfl; exact rfl; exact rfl; intro _ _))
  refine TL_callN rfl rfl rfl (fun w h => f10 (svP falaj0 q10) _ w (svOf h (fun x hx => by repeat (first | exact List.mem_append_left _ hx | apply List.mem_append_right | apply List.mem_cons_of_mem))) (Sl.of_blk h mm (fun _ _ => rfl) ⟨[], rfl⟩)) ?_
  rintro ⟨so10, sc10, ob10⟩ hrow10
  change TL _ _ _ _ _ _ _ _ _ _ _
  dsimp only
  repeat' (first | refine rn ?_ | (apply TL_box; exact rfl; exact rfl; exact rfl; intro _ _) | (apply TL_alloc; exact rfl; intro _ _) | (apply TL_buildSlice; exact rfl; exact rfl; exact rfl; exact rfl; exact rfl; intro _ _))
  apply TC_draw 8; kernel_rfl; exact Tryd.mixed
  · (refine' PG.rel ((fun v h => ∃ q, v = .agg (encSv falaj0 (svP falaj0 q)).toArray ∧ h = svH falaj0 q)) rfl rfl (by intro _X; refine TL_callN rfl rfl rfl (fun w _ => c62 w) ?_; rintro q -; exact TL_nil (TQ_QR (h := svH falaj0 q) rfl ⟨q, rfl, rfl⟩ (fun _ h => h))) ?_; rotate_left)
    (refine' PG.rel ((fun v h => ∃ b, v = .slice (some ⟨b, 0, none⟩) 21 21 ∧ h = [(b, .cells (List.replicate 21 (.int .i64 0)) 3)])) rfl rfl (by intro _X; refine TL_makeSlice1 21 rfl rfl rfl rfl rfl (by decide) (by decide) (by kernel_rfl) rfl (fun b _ => ?_); exact TL_nil (TQ_QR (h := [(b, _)]) rfl ⟨b, rfl, rfl⟩ (fun _ h => h))) ?_; rotate_left)
    (refine' PG.rel ((fun v h => ∃ a c, v = .tuple #[.slice a 0 c, .int .i64 4] ∧ h = h)) rfl rfl (by rintro _ _ ⟨bm, rfl, rfl⟩ _ _ ⟨q11, rfl, rfl⟩ _X; refine TL_callN rfl rfl rfl (fun w h => f11 (svP falaj0 q11) _ w (svOf h (fun x hx => by simp only [List.mem_append, List.mem_cons, hx, true_or, or_true])) (Sl.of_blk h mm (fun _ _ => rfl) ⟨[], rfl⟩)) ?_; rintro ⟨a, c, ob⟩ -; exact TL_nil (TQ_QR (h := ob) rfl ⟨a, c, rfl, rfl⟩ (fun _ h => h))) ?_; rotate_left)
    (refine' PG.rel ((fun v h => ∃ a c, v = .tuple #[.slice a 0 c, .int .i64 4] ∧ h = [])) rfl rfl (by rintro _ _ ⟨a, c, rfl, _⟩ _X; refine r1 ?_; exact TL_nil (TQ_QR (h := []) rfl ⟨a, c, rfl, rfl⟩ (fun _ h => h))) ?_; rotate_left)
    (refine' PG.rel ((fun v h => (∃ a c, v = .slice a 0 c) ∧ h = [])) rfl rfl (by rintro _ _ ⟨a, c, rfl, _⟩ _X; refine r1 ?_; exact TL_nil (TQ_QR (h := []) rfl ⟨⟨a, c, rfl⟩, rfl⟩ (fun _ h => h))) ?_; rotate_left)
    (refine' PG.val rfl rfl (by rintro _ _ ⟨a, c, rfl, _⟩ _X; refine r1 ?_; exact qe) ?_; rotate_left)
    (refine' PG.rel ((fun v h => (∃ a c, v = .slice a 0 c) ∧ h = [])) rfl rfl (by rintro _ _ ⟨⟨a, c, rfl⟩, _⟩ _X; refine r1 ?_; exact TL_nil (TQ_QR (h := []) rfl ⟨⟨a, c, rfl⟩, rfl⟩ (fun _ h => h))) ?_; rotate_left)
    (refine' pv ?_; rotate_left)
    exact PG.nil
  rintro _ _ ⟨⟨a16, c16', rfl⟩, rfl⟩ _ _ ⟨⟨a14, c14, rfl⟩, rfl⟩ _ _ ⟨a13, c13, rfl, rfl⟩ _ ob12 ⟨a12, c12, rfl, _⟩ _ _ ⟨bm, rfl, rfl⟩ _ _ ⟨q11, rfl, rfl⟩
  change TL _ _ _ _ _ _ _ _ _ _ _
  repeat' (first | refine rn ?_ | (apply TL_box; exact rfl; exact rfl; exact rfl; intro _ _) | (apply TL_alloc; exact rfl; intro _ _) | (apply TL_buildSlice; exact rfl; exact rfl; exact rfl; exact rfl; exact rfl; intro _ _))
  refine TL_callN rfl rfl rfl (fun w _ => c62 w) ?_
  rintro q12 -
  change TL _ _ _ _ _ _ _ _ _ _ _
  repeat' (first | refine rn ?_ | (apply TL_box; exact rfl; exact rfl; exact rfl; intro _ _) | (apply TL_alloc; exact rfl; intro _ _) | (apply TL_buildSlice; exact rfl; exact rfl; exact rfl; exact rfl; exact rfl; intro _ _))
  refine TL_callV rfl rfl rfl (fun w h => f12 (svP falaj0 q12) _ w (svOf h (fun x hx => by repeat (first | exact List.mem_append_left _ hx | apply List.mem_append_right | apply List.mem_cons_of_mem))) (Sl.of_blk h mm (fun _ _ => rfl) ⟨[], rfl⟩)) ?_
  repeat' (first | refine rn ?_ | (apply TL_box; exact rfl; exact rfl; exact rfl; intro _ _) | (apply TL_alloc; exact rfl; intro _ _) | (apply TL_buildSlice; exact rfl; exact rfl; exact rfl; exact rfl; exact rfl; intro _ _))
  refine TL_callV rfl rfl rfl (fun w _ => c39 1 1 w) ?_
  repeat' (first | refine rn ?_ | (apply TL_box; exact rfl; exact rfl; exact rfl; intro _ _) | (apply TL_alloc; exact rfl; intro _ _) | (apply TL_buildSlice; exact rfl; exact rfl; exact rfl; exact rfl; exact rfl; intro _ _))
  refine TL_callV rfl rfl rfl (fun w h => f13 ⟨_, 2, none, 0, none, 0⟩ _ w ⟨Sl.of_blk (l := two0.shots) (enc := encSh) h mm (fun _ _ => rfl) ⟨[], rfl⟩, Sl.nil _ _ _ _, Sl.nil _ _ _ _⟩ (Sl.of_blk h mm (fun _ _ => rfl) ⟨[], rfl⟩)) ?_
  repeat' (first | (refine TL_eql_same rfl rfl rfl ?_) | refine r1 ?_ | (apply TL_box; exact rfl; exact rfl; exact rfl; intro _ _) | (apply TL_alloc; exact rfl; intro _ _) | (apply TL_buildSlice; exact rfl; exact rfl; exact rfl; exact rfl; exact rfl; intro _ _))
  refine TL_callV rfl rfl rfl (fun w h => f14 ⟨none, 0, none, 0, none, 0⟩ w (noneAt w zero0 rfl rfl rfl _)) ?_
  repeat' (first | (refine TL_eql_same rfl rfl rfl ?_) | refine r1 ?_ | (apply TL_box; exact rfl; exact rfl; exact rfl; intro _ _) | (apply TL_alloc; exact rfl; intro _ _) | (apply TL_buildSlice; exact rfl; exact rfl; exact rfl; exact rfl; exact rfl; intro _ _))
  refine TL_callV rfl rfl rfl (fun w _ => e16 w) ?_
  refine TL_guard_yes rfl rfl rfl ?_
  refine TL_eql_str rfl rfl rfl ?_
  repeat' (first | refine rn ?_ | (apply TL_box; exact rfl; exact rfl; exact rfl; intro _ _) | (apply TL_alloc; exact rfl; intro _ _) | (apply TL_buildSlice; exact rfl; exact rfl; exact rfl; exact rfl; exact rfl; intro _ _))
  exact TQ_ret1 Tryd.results3 (RV.tmp rfl) (fun w' hs => ⟨rfl, hs.below⟩)
end Go.Proofs.YtoolblbdmmiahaaDoor
