/- The walk of the statement DateExamples. -/
import Derived.Test.YtccgplomnjpniaaE25
import Derived.Test.YtccgplomnjpniaaE6
namespace Go.Proofs.Ytccgplomnjpniaa
open Go Go.Eng Go.RowKit Go.Proofs
set_option maxHeartbeats 4000000
set_option maxRecDepth 10000
attribute [local irreducible] TL TC TQ

theorem eqGuardType53 : Try.prog.eqGuardType Try.prog.depth 53 = false := by kernel_rfl
instance eqg53 : EqG Try.prog 53 := ⟨eqGuardType53⟩
def short0 : Ft := ⟨(500, 600), (40, 50), 450, 300, 1, 9, 5, 3⟩
def wild0 : Rd := ⟨(100, 120), (10, 10), (2, 1), (5, 6), (500, 600), [((50, 60), 10), ((40, 60), 12)]⟩
def poor0 : Rd := ⟨(100, 120), (9, 10), (20, 25), (5, 6), (500, 600), [((50, 60), 10), ((40, 60), 12)]⟩
def half0 : Ft := ⟨(0, 0), (0, 0), 0, 1, 0, 0, 0, 0⟩
def none0 : Bn := ⟨[], (0, 0), false⟩
theorem ex1 : gradesR fruit0 0 = (0, 0, 0) := by kernel_rfl
theorem ex2 : gradesR fruit0 4 = (1, 1, 0) := by kernel_rfl
theorem ex3 : gradesR fruit0 31 = (0, 0, 2) := by kernel_rfl
theorem ex4 : bestR fruit0 bunch0 1 = ([3], 510, 0) := by kernel_rfl
theorem ex5 : bestR fruit0 bunch0 13 = ([], 0, 2) := by kernel_rfl
theorem ex6 : cutF short0 bunch0 [3] = (⟨(40, 64), (0, 0), (0, 0), (4, 10), (32, 46), (0, 0), (cutF short0 bunch0 [3]).1.worth⟩, 0) := by kernel_rfl
theorem ex7 : (cutF fruit0 bunch0 [1, 1]).2 = 82 := by kernel_rfl
theorem ex8 : (goR round0 7).2 = (0, 84) := by kernel_rfl
theorem ex9 : (goR round0 2).2 = (1, 85) := by kernel_rfl
theorem ex10 : (goR round0 1001).2.2 = 2 := by kernel_rfl
theorem ex11 : goatsP poor0 = ((0, 0), 6) := by kernel_rfl
theorem ex12 : goatsP wild0 = ((0, 0), 83) := by kernel_rfl
theorem ex13 : checkR half0 bunch0 = 80 := by kernel_rfl
theorem ex14 : checkR fruit0 none0 = 81 := by kernel_rfl
theorem c6 (w : World) : Calls Try.prog 6 #[] w (RetV w (.bool true)) := by
  have c21a := fun w => c21 fruit0 0 w
  rw [ex1] at c21a
  have c21b := fun w => c21 fruit0 4 w
  rw [ex2] at c21b
  have c21c := fun w => c21 fruit0 31 w
  rw [ex3] at c21c
  have c29a := fun q w h1 => c29 fruit0 bunch0 (some ⟨q, 0, none⟩) 4 1 (by decide) w h1
  rw [ex4] at c29a
  have c29b := fun q w h1 => c29 fruit0 bunch0 (some ⟨q, 0, none⟩) 4 13 (by decide) w h1
  rw [ex5] at c29b
  have c23b := fun q lc w h1 h2 => c23 short0 bunch0 (some ⟨q, 0, none⟩) 4 [3] lc 1 (by decide) (by decide) w h1 h2
  rw [ex6] at c23b
  generalize (cutF short0 bunch0 [3]).1.worth = wo at c23b
  have c23c := fun q lc w h1 h2 => c23 fruit0 bunch0 (some ⟨q, 0, none⟩) 4 [1, 1] lc 2 (by decide) (by decide) w h1 h2
  rw [ex7] at c23c
  generalize (cutF fruit0 bunch0 [1, 1]).1 = yc at c23c
  have c15a := fun q w h1 => c15 round0 7 (some ⟨q, 0, none⟩) 2 (by decide) w h1
  obtain ⟨ga, hga⟩ : ∃ ga, goR round0 7 = (ga, 0, 84) := ⟨_, Prod.ext rfl ex8⟩
  rw [hga] at c15a
  have c15b := fun q w h1 => c15 round0 2 (some ⟨q, 0, none⟩) 2 (by decide) w h1
  obtain ⟨gb, hgb⟩ : ∃ gb, goR round0 2 = (gb, 1, 85) := ⟨_, Prod.ext rfl ex9⟩
  rw [hgb] at c15b
  have c15c := fun q w h1 => c15 round0 1001 (some ⟨q, 0, none⟩) 2 (by decide) w h1
  obtain ⟨gc, gn, hgc⟩ : ∃ gc gn, goR round0 1001 = (gc, gn, 2) := ⟨_, _, Prod.ext rfl (Prod.ext rfl ex10)⟩
  rw [hgc] at c15c
  have c17a := fun q w h1 => c17 poor0 (some ⟨q, 0, none⟩) 2 (by decide) w h1
  rw [ex11] at c17a
  have c17b := fun q w h1 => c17 wild0 (some ⟨q, 0, none⟩) 2 (by decide) w h1
  rw [ex12] at c17b
  have c25a := fun q w h1 => c25 half0 bunch0 (some ⟨q, 0, none⟩) 4 (by decide) w h1
  rw [ex13] at c25a
  have c25b := fun w h1 => c25 fruit0 none0 none 0 (by decide) w h1
  rw [ex14] at c25b
  refine enter (args := []) Try.func6 rfl Try.ntmps6 rfl (SH.refl _) ?_
  repeat' (first | refine rn ?_ | (apply TL_box; exact rfl; exact rfl; exact rfl; intro _ _) | (apply TL_alloc; exact rfl; intro _ _) | (apply TL_buildSlice; exact rfl; exact rfl; exact rfl; exact rfl; exact rfl; intro _ _))
  refine TL_callV rfl rfl rfl (fun w _ => c31 w) ?_
  repeat' (first | refine rn ?_ | (apply TL_box; exact rfl; exact rfl; exact rfl; intro _ _) | (apply TL_alloc; exact rfl; intro _ _) | (apply TL_buildSlice; exact rfl; exact rfl; exact rfl; exact rfl; exact rfl; intro _ _))
  refine TL_callV rfl rfl rfl (fun w _ => c32 w) ?_
  repeat' (first | refine rn ?_ | (apply TL_box; exact rfl; exact rfl; exact rfl; intro _ _) | (apply TL_alloc; exact rfl; intro _ _) | (apply TL_buildSlice; exact rfl; exact rfl; exact rfl; exact rfl; exact rfl; intro _ _))
  refine TL_callV rfl rfl rfl (fun w _ => c32 w) ?_
  refine TL_callV rfl rfl rfl (fun w _ => c21a w) ?_
  repeat' (first | refine rn ?_ | (apply TL_box; exact rfl; exact rfl; exact rfl; intro _ _) | (apply TL_alloc; exact rfl; intro _ _) | (apply TL_buildSlice; exact rfl; exact rfl; exact rfl; exact rfl; exact rfl; intro _ _))
  refine TL_callV rfl rfl rfl (fun w _ => c32 w) ?_
  refine TL_callV rfl rfl rfl (fun w _ => c21b w) ?_
  repeat' (first | refine rn ?_ | (apply TL_box; exact rfl; exact rfl; exact rfl; intro _ _) | (apply TL_alloc; exact rfl; intro _ _) | (apply TL_buildSlice; exact rfl; exact rfl; exact rfl; exact rfl; exact rfl; intro _ _))
  refine TL_callV rfl rfl rfl (fun w _ => c32 w) ?_
  refine TL_callN rfl rfl rfl (fun w _ => c33 w) ?_
  rintro q1 -
  refine TL_callN rfl rfl rfl (fun w h => c29a q1 w (Sl.of_blk h mm (fun _ _ => rfl) ⟨[], rfl⟩)) ?_
  rintro ⟨so1, sc1, ob1⟩ hrow1
  replace hrow1 : Row 3 1 encI so1 sc1 ob1 [3] := hrow1
  try dsimp only
  repeat' (first | refine rn ?_ | (apply TL_box; exact rfl; exact rfl; exact rfl; intro _ _) | (apply TL_alloc; exact rfl; intro _ _) | (apply TL_buildSlice; exact rfl; exact rfl; exact rfl; exact rfl; exact rfl; intro _ _))
  apply TC_draw3 8 6; kernel_rfl; exact Try.mixed
  · (refine' pv ?_; rotate_left)
    (refine' PG.rel ((fun v h => ∃ q, v = .agg (encBn bunch0 (some ⟨q, 0, none⟩) 4).toArray ∧ h = [(q, .cells (bunch0.ripe.flatMap encSp) 23)])) rfl rfl (by intro _X; refine TL_callN rfl rfl rfl (fun w _ => c33 w) ?_; rintro q -; exact TL_nil (TQ_QR (h := [(q, _)]) rfl ⟨q, rfl, rfl⟩ (fun _ h => h))) ?_; rotate_left)
    (refine' PG.rel ((fun v h => ∃ b4, v = .slice (some ⟨b4, 0, none⟩) 1 1 ∧ h = [(b4, .cells [.int .i64 3] 3)])) rfl rfl (by intro _X; apply TL_buildSlice; exact rfl; exact rfl; exact rfl; exact rfl; exact rfl; intro b4 _; exact TL_nil (TQ_QR (h := [(b4, _)]) rfl ⟨b4, rfl, rfl⟩ (fun _ h => h))) ?_; rotate_left)
    (refine' PG.val rfl rfl (by rintro _ _ ⟨b4, rfl, rfl⟩ _ _ ⟨q, rfl, rfl⟩ _X; refine TL_callV rfl rfl rfl (fun w h => c23b q _ w (Sl.of_blk h mm (fun _ _ => rfl) ⟨[], rfl⟩) (Sl.of_blk h mm (fun _ _ => rfl) ⟨[], rfl⟩)) ?_; exact qe) ?_; rotate_left)
    (refine' pv ?_; rotate_left)
    (refine' pv ?_; rotate_left)
    (refine' pv ?_; rotate_left)
    (refine' pn ?_; rotate_left)
    exact PG.nil
  · rintro _ _ ⟨b10, _, rfl, rfl⟩ _ _ ⟨b9, rfl, rfl⟩ _ _ ⟨q2, rfl, rfl⟩; change TL _ _ _ _ _ _ _ _ _ _ _; refine r1 ?_; exact TL_nil TQ_endN
  rintro _ _ ⟨b10, _, rfl, rfl⟩ _ _ ⟨b9, rfl, rfl⟩ _ _ ⟨q2, rfl, rfl⟩
  change TL _ _ _ _ _ _ _ _ _ _ _
  repeat' (first | refine rn ?_ | (apply TL_box; exact rfl; exact rfl; exact rfl; intro _ _) | (apply TL_alloc; exact rfl; intro _ _) | (apply TL_buildSlice; exact rfl; exact rfl; exact rfl; exact rfl; exact rfl; intro _ _))
  apply TC_draw 65; kernel_rfl; exact Try.mixed
  · (refine' pv ?_; rotate_left)
    (refine' PG.val rfl rfl (by intro _X; refine TL_neq_same rfl rfl rfl ?_; exact qe) ?_; rotate_left)
    (refine' pv ?_; rotate_left)
    (refine' pg ?_; rotate_left)
    (refine' PG.val rfl rfl (by intro _X; (refine TL_guard_yes rfl rfl rfl ?_); refine TL_neq_same rfl rfl rfl ?_; exact qe) ?_; rotate_left)
    (refine' pv ?_; rotate_left)
    (refine' pv ?_; rotate_left)
    (refine' pg ?_; rotate_left)
    (refine' PG.val rfl rfl (by intro _X; (refine TL_guard_yes rfl rfl rfl ?_); refine TL_neq_same rfl rfl rfl ?_; exact qe) ?_; rotate_left)
    (refine' pv ?_; rotate_left)
    (refine' pv ?_; rotate_left)
    (refine' pg ?_; rotate_left)
    (refine' PG.val rfl rfl (by intro _X; (refine TL_guard_yes rfl rfl rfl ?_); refine TL_neq_same rfl rfl rfl ?_; exact qe) ?_; rotate_left)
    (refine' pv ?_; rotate_left)
    (refine' pv ?_; rotate_left)
    (refine' pg ?_; rotate_left)
    (refine' PG.val rfl rfl (by intro _X; (refine TL_guard_yes rfl rfl rfl ?_); refine TL_neq_same rfl rfl rfl ?_; exact qe) ?_; rotate_left)
    (refine' pv ?_; rotate_left)
    (refine' pv ?_; rotate_left)
    (refine' pg ?_; rotate_left)
    (refine' PG.val rfl rfl (by intro _X; (refine TL_guard_yes rfl rfl rfl ?_); refine TL_neq_same rfl rfl rfl ?_; exact qe) ?_; rotate_left)
    (refine' pv ?_; rotate_left)
    (refine' pv ?_; rotate_left)
    (refine' pg ?_; rotate_left)
    (refine' PG.val rfl rfl (by intro _X; (refine TL_guard_yes rfl rfl rfl ?_); refine TL_neq_same rfl rfl rfl ?_; exact qe) ?_; rotate_left)
    (refine' pv ?_; rotate_left)
    (refine' pv ?_; rotate_left)
    (refine' pg ?_; rotate_left)
    (refine' PG.val rfl rfl (by intro _X; (refine TL_guard_yes rfl rfl rfl ?_); refine TL_neq_same rfl rfl rfl ?_; exact qe) ?_; rotate_left)
    (refine' pv ?_; rotate_left)
    (refine' pv ?_; rotate_left)
    (refine' pg ?_; rotate_left)
    (refine' PG.rel ((fun v h => ∃ b4, v = .slice (some ⟨b4, 0, none⟩) 1 1 ∧ h = [(b4, .cells [.int .i64 3] 3)])) rfl rfl (by intro _X; refine TL_guard_yes rfl rfl rfl ?_; apply TL_buildSlice; exact rfl; exact rfl; exact rfl; exact rfl; exact rfl; intro b4 _; exact TL_nil (TQ_QR (h := [(b4, _)]) rfl ⟨b4, rfl, rfl⟩ (fun _ h => h))) ?_; rotate_left)
    (refine' PG.val rfl rfl (by rintro _ _ ⟨b4, rfl, rfl⟩ _X; refine TL_guard_yes rfl rfl rfl ?_; refine TL_callV rfl rfl rfl (fun w h => c28 [3] [3] so1 (some ⟨b4, 0, none⟩) sc1 1 (by decide) w (hrow1.sl h (fun p hp => (by repeat (first | exact List.mem_append_left _ hp | apply List.mem_append_right | apply List.mem_cons_of_mem)))) (Sl.of_blk h mm (fun _ _ => rfl) ⟨[], rfl⟩)) ?_; exact qe) ?_; rotate_left)
    (refine' pg ?_; rotate_left)
    (refine' pv ?_; rotate_left)
    (refine' pv ?_; rotate_left)
    (refine' pg ?_; rotate_left)
    (refine' PG.val rfl rfl (by intro _X; (refine TL_guard_yes rfl rfl rfl ?_); refine TL_neq_same rfl rfl rfl ?_; exact qe) ?_; rotate_left)
    (refine' pv ?_; rotate_left)
    (refine' pv ?_; rotate_left)
    (refine' pg ?_; rotate_left)
    (refine' pg ?_; rotate_left)
    (refine' PG.val rfl rfl (by intro _X; (refine TL_guard_yes rfl rfl rfl ?_); refine TL_callV rfl rfl rfl (fun w _ => c34 40 64 w) ?_; exact qe) ?_; rotate_left)
    (refine' pg ?_; rotate_left)
    (refine' PG.val rfl rfl (by intro _X; (refine TL_guard_yes rfl rfl rfl ?_); refine TL_neqS_same rfl rfl rfl rfl rfl rfl rfl ?_; exact qe) ?_; rotate_left)
    (refine' pv ?_; rotate_left)
    (refine' pv ?_; rotate_left)
    (refine' pg ?_; rotate_left)
    (refine' pg ?_; rotate_left)
    (refine' PG.val rfl rfl (by intro _X; (refine TL_guard_yes rfl rfl rfl ?_); refine TL_callV rfl rfl rfl (fun w _ => c34 4 10 w) ?_; exact qe) ?_; rotate_left)
    (refine' PG.val rfl rfl (by intro _X; (refine TL_guard_yes rfl rfl rfl ?_); refine TL_neqS_same rfl rfl rfl rfl rfl rfl rfl ?_; exact qe) ?_; rotate_left)
    (refine' pv ?_; rotate_left)
    (refine' pv ?_; rotate_left)
    (refine' pg ?_; rotate_left)
    (refine' pg ?_; rotate_left)
    (refine' PG.val rfl rfl (by intro _X; (refine TL_guard_yes rfl rfl rfl ?_); refine TL_callV rfl rfl rfl (fun w _ => c34 32 46 w) ?_; exact qe) ?_; rotate_left)
    (refine' PG.val rfl rfl (by intro _X; (refine TL_guard_yes rfl rfl rfl ?_); refine TL_neqS_same rfl rfl rfl rfl rfl rfl rfl ?_; exact qe) ?_; rotate_left)
    (refine' pv ?_; rotate_left)
    (refine' pv ?_; rotate_left)
    (refine' pg ?_; rotate_left)
    (refine' pg ?_; rotate_left)
    (refine' PG.val rfl rfl (by intro _X; (refine TL_guard_yes rfl rfl rfl ?_); refine TL_callV rfl rfl rfl (fun w _ => c34 0 0 w) ?_; exact qe) ?_; rotate_left)
    (refine' PG.val rfl rfl (by intro _X; (refine TL_guard_yes rfl rfl rfl ?_); refine TL_neqS_same rfl rfl rfl rfl rfl rfl rfl ?_; exact qe) ?_; rotate_left)
    (refine' pv ?_; rotate_left)
    exact PG.nil
  rintro _ _ ⟨b4, rfl, rfl⟩
  change TL _ _ _ _ _ _ _ _ _ _ _
  repeat' (first | refine rn ?_ | (apply TL_box; exact rfl; exact rfl; exact rfl; intro _ _) | (apply TL_alloc; exact rfl; intro _ _) | (apply TL_buildSlice; exact rfl; exact rfl; exact rfl; exact rfl; exact rfl; intro _ _))
  refine TL_callN rfl rfl rfl (fun w _ => c35 w) ?_
  rintro q3 -
  try dsimp only
  repeat' (first | refine rn ?_ | (apply TL_box; exact rfl; exact rfl; exact rfl; intro _ _) | (apply TL_alloc; exact rfl; intro _ _) | (apply TL_buildSlice; exact rfl; exact rfl; exact rfl; exact rfl; exact rfl; intro _ _))
  refine TL_callV rfl rfl rfl (fun w _ => c34 2 1 w) ?_
  repeat' (first | refine rn ?_ | (apply TL_box; exact rfl; exact rfl; exact rfl; intro _ _) | (apply TL_alloc; exact rfl; intro _ _) | (apply TL_buildSlice; exact rfl; exact rfl; exact rfl; exact rfl; exact rfl; intro _ _))
  refine TL_callN rfl rfl rfl (fun w _ => c35 w) ?_
  rintro q4 -
  try dsimp only
  repeat' (first | refine rn ?_ | (apply TL_box; exact rfl; exact rfl; exact rfl; intro _ _) | (apply TL_alloc; exact rfl; intro _ _) | (apply TL_buildSlice; exact rfl; exact rfl; exact rfl; exact rfl; exact rfl; intro _ _))
  refine TL_callV rfl rfl rfl (fun w _ => c34 9 10 w) ?_
  repeat' (first | refine rn ?_ | (apply TL_box; exact rfl; exact rfl; exact rfl; intro _ _) | (apply TL_alloc; exact rfl; intro _ _) | (apply TL_buildSlice; exact rfl; exact rfl; exact rfl; exact rfl; exact rfl; intro _ _))
  refine TL_callV rfl rfl rfl (fun w _ => c32 w) ?_
  refine TL_callV rfl rfl rfl (fun w _ => c21c w) ?_
  repeat' (first | refine rn ?_ | (apply TL_box; exact rfl; exact rfl; exact rfl; intro _ _) | (apply TL_alloc; exact rfl; intro _ _) | (apply TL_buildSlice; exact rfl; exact rfl; exact rfl; exact rfl; exact rfl; intro _ _))
  refine TL_callV rfl rfl rfl (fun w _ => c32 w) ?_
  refine TL_callN rfl rfl rfl (fun w _ => c33 w) ?_
  rintro q5 -
  try dsimp only
  repeat' (first | refine rn ?_ | (apply TL_box; exact rfl; exact rfl; exact rfl; intro _ _) | (apply TL_alloc; exact rfl; intro _ _) | (apply TL_buildSlice; exact rfl; exact rfl; exact rfl; exact rfl; exact rfl; intro _ _))
  refine TL_callV rfl rfl rfl (fun w h => c23c q5 _ w (Sl.of_blk h mm (fun _ _ => rfl) ⟨[], rfl⟩) (Sl.of_blk h mm (fun _ _ => rfl) ⟨[], rfl⟩)) ?_
  repeat' (first | refine rn ?_ | (apply TL_box; exact rfl; exact rfl; exact rfl; intro _ _) | (apply TL_alloc; exact rfl; intro _ _) | (apply TL_buildSlice; exact rfl; exact rfl; exact rfl; exact rfl; exact rfl; intro _ _))
  refine TL_callV rfl rfl rfl (fun w _ => c32 w) ?_
  refine TL_callN rfl rfl rfl (fun w _ => c33 w) ?_
  rintro q6 -
  try dsimp only
  refine TL_callN rfl rfl rfl (fun w h => c29b q6 w (Sl.of_blk h mm (fun _ _ => rfl) ⟨[], rfl⟩)) ?_
  rintro ⟨so2, sc2, ob2⟩ hrow2
  try dsimp only
  repeat' (first | refine rn ?_ | (apply TL_box; exact rfl; exact rfl; exact rfl; intro _ _) | (apply TL_alloc; exact rfl; intro _ _) | (apply TL_buildSlice; exact rfl; exact rfl; exact rfl; exact rfl; exact rfl; intro _ _))
  refine TL_callN rfl rfl rfl (fun w _ => c35 w) ?_
  rintro q7 -
  try dsimp only
  refine TL_callN rfl rfl rfl (fun w h => c15a q7 w (Sl.of_blk h mm (fun _ _ => rfl) ⟨[], rfl⟩)) ?_
  rintro ⟨so3, sc3, ob3⟩ hrow3
  dsimp only [runV]
  repeat' (first | refine rn ?_ | (apply TL_box; exact rfl; exact rfl; exact rfl; intro _ _) | (apply TL_alloc; exact rfl; intro _ _) | (apply TL_buildSlice; exact rfl; exact rfl; exact rfl; exact rfl; exact rfl; intro _ _))
  refine TL_callN rfl rfl rfl (fun w _ => c35 w) ?_
  rintro q8 -
  try dsimp only
  refine TL_callN rfl rfl rfl (fun w h => c15b q8 w (Sl.of_blk h mm (fun _ _ => rfl) ⟨[], rfl⟩)) ?_
  rintro ⟨so4, sc4, ob4⟩ hrow4
  dsimp only [runV]
  repeat' (first | refine rn ?_ | (apply TL_box; exact rfl; exact rfl; exact rfl; intro _ _) | (apply TL_alloc; exact rfl; intro _ _) | (apply TL_buildSlice; exact rfl; exact rfl; exact rfl; exact rfl; exact rfl; intro _ _))
  refine TL_callN rfl rfl rfl (fun w _ => c35 w) ?_
  rintro q9 -
  try dsimp only
  refine TL_callN rfl rfl rfl (fun w h => c15c q9 w (Sl.of_blk h mm (fun _ _ => rfl) ⟨[], rfl⟩)) ?_
  rintro ⟨so5, sc5, ob5⟩ hrow5
  dsimp only [runV]
  repeat' (first | refine rn ?_ | (apply TL_box; exact rfl; exact rfl; exact rfl; intro _ _) | (apply TL_alloc; exact rfl; intro _ _) | (apply TL_buildSlice; exact rfl; exact rfl; exact rfl; exact rfl; exact rfl; intro _ _))
  refine TL_callV rfl rfl rfl (fun w h => c17a q4 w (Sl.of_blk h mm (fun _ _ => rfl) ⟨[], rfl⟩)) ?_
  repeat' (first | refine rn ?_ | (apply TL_box; exact rfl; exact rfl; exact rfl; intro _ _) | (apply TL_alloc; exact rfl; intro _ _) | (apply TL_buildSlice; exact rfl; exact rfl; exact rfl; exact rfl; exact rfl; intro _ _))
  refine TL_callV rfl rfl rfl (fun w h => c17b q3 w (Sl.of_blk h mm (fun _ _ => rfl) ⟨[], rfl⟩)) ?_
  repeat' (first | refine rn ?_ | (apply TL_box; exact rfl; exact rfl; exact rfl; intro _ _) | (apply TL_alloc; exact rfl; intro _ _) | (apply TL_buildSlice; exact rfl; exact rfl; exact rfl; exact rfl; exact rfl; intro _ _))
  refine TL_callN rfl rfl rfl (fun w _ => c33 w) ?_
  rintro q10 -
  try dsimp only
  repeat' (first | refine rn ?_ | (apply TL_box; exact rfl; exact rfl; exact rfl; intro _ _) | (apply TL_alloc; exact rfl; intro _ _) | (apply TL_buildSlice; exact rfl; exact rfl; exact rfl; exact rfl; exact rfl; intro _ _))
  refine TL_callV rfl rfl rfl (fun w h => c25a q10 w (Sl.of_blk h mm (fun _ _ => rfl) ⟨[], rfl⟩)) ?_
  repeat' (first | refine rn ?_ | (apply TL_box; exact rfl; exact rfl; exact rfl; intro _ _) | (apply TL_alloc; exact rfl; intro _ _) | (apply TL_buildSlice; exact rfl; exact rfl; exact rfl; exact rfl; exact rfl; intro _ _))
  refine TL_callV rfl rfl rfl (fun w _ => c32 w) ?_
  repeat' (first | refine rn ?_ | (apply TL_box; exact rfl; exact rfl; exact rfl; intro _ _) | (apply TL_alloc; exact rfl; intro _ _) | (apply TL_buildSlice; exact rfl; exact rfl; exact rfl; exact rfl; exact rfl; intro _ _))
  refine TL_callV rfl rfl rfl (fun w h => c25b w (Sl.nil _ _ _ _)) ?_
  repeat' (first | refine rn ?_ | (apply TL_box; exact rfl; exact rfl; exact rfl; intro _ _) | (apply TL_alloc; exact rfl; intro _ _) | (apply TL_buildSlice; exact rfl; exact rfl; exact rfl; exact rfl; exact rfl; intro _ _))
  exact TQ_ret1 Try.results6 (RV.tmp rfl) (fun w' hs => ⟨rfl, hs.below⟩)
end Go.Proofs.Ytccgplomnjpniaa
