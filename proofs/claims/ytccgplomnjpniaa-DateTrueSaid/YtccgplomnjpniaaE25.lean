/- Walks: the chapter's examples, as the outright laws use them. -/
import Derived.Test.YtccgplomnjpniaaE22
import Derived.Test.YtccgplomnjpniaaE6
import Derived.Test.YtccgplomnjpniaaD13
import Derived.Test.YtccgplomnjpniaaD3
namespace Go.Proofs.Ytccgplomnjpniaa
open Go Go.Eng Go.RowKit Go.Proofs
set_option maxHeartbeats 4000000
set_option maxRecDepth 10000
attribute [local irreducible] TL TC TQ

def fruit0 : Ft := ⟨(500, 600), (40, 50), 450, 300, 4, 9, 5, 3⟩
def bunch0 : Bn := ⟨[(10, 20), (30, 30), (0, 5), (40, 60)], (1, 2), false⟩
def round0 : Rd := ⟨(100, 120), (10, 10), (20, 25), (5, 6), (500, 600), [((50, 60), 10), ((40, 60), 12)]⟩
theorem c34 (lo hi : Int) (w : World) : Calls Try.prog 34 #[.int .i64 lo, .int .i64 hi] w (RetV w (.agg (encSp (lo, hi)).toArray)) := by
  refine enter (args := [.int .i64 lo, .int .i64 hi]) Try.func34 rfl Try.ntmps34 rfl (SH.refl _) ?_
  repeat' (first | refine rn ?_ | (apply TL_box; exact rfl; exact rfl; exact rfl; intro _ _) | (apply TL_alloc; exact rfl; intro _ _) | (apply TL_buildSlice; exact rfl; exact rfl; exact rfl; exact rfl; exact rfl; intro _ _))
  exact TQ_ret1 Try.results34 (RV.celln rfl mm (by rfl)) (fun w' hs => ⟨rfl, hs.below⟩)
theorem c32 (w : World) : Calls Try.prog 32 #[] w (RetV w (.agg (encFt fruit0).toArray)) := by
  refine enter (args := []) Try.func32 rfl Try.ntmps32 rfl (SH.refl _) ?_
  repeat' (first | refine rn ?_ | (apply TL_box; exact rfl; exact rfl; exact rfl; intro _ _) | (apply TL_alloc; exact rfl; intro _ _) | (apply TL_buildSlice; exact rfl; exact rfl; exact rfl; exact rfl; exact rfl; intro _ _))
  refine TL_callV rfl rfl rfl (fun w _ => c34 500 600 w) ?_
  refine TL_callV rfl rfl rfl (fun w _ => c34 40 50 w) ?_
  repeat' (first | refine rn ?_ | (apply TL_box; exact rfl; exact rfl; exact rfl; intro _ _) | (apply TL_alloc; exact rfl; intro _ _) | (apply TL_buildSlice; exact rfl; exact rfl; exact rfl; exact rfl; exact rfl; intro _ _))
  exact TQ_ret1 Try.results32 (RV.celln rfl mm (by rfl)) (fun w' hs => ⟨rfl, hs.below⟩)
theorem c33 (w : World) : Calls Try.prog 33 #[] w (RetP w.heap.size w (fun q : Nat => .agg (encBn bunch0 (some ⟨q, 0, none⟩) 4).toArray) (fun q => [(q, .cells (bunch0.ripe.flatMap encSp) 23)]) (fun _ => True)) := by
  refine enter (args := []) Try.func33 rfl Try.ntmps33 rfl (SH.refl _) ?_
  repeat' (first | refine rn ?_ | (apply TL_box; exact rfl; exact rfl; exact rfl; intro _ _) | (apply TL_alloc; exact rfl; intro _ _) | (apply TL_buildSlice; exact rfl; exact rfl; exact rfl; exact rfl; exact rfl; intro _ _))
  refine TL_callV rfl rfl rfl (fun w _ => c34 10 20 w) ?_
  refine TL_callV rfl rfl rfl (fun w _ => c34 30 30 w) ?_
  refine TL_callV rfl rfl rfl (fun w _ => c34 0 5 w) ?_
  refine TL_callV rfl rfl rfl (fun w _ => c34 40 60 w) ?_
  repeat' (first | refine rn ?_ | (apply TL_box; exact rfl; exact rfl; exact rfl; intro _ _) | (apply TL_alloc; exact rfl; intro _ _) | (apply TL_buildSlice; exact rfl; exact rfl; exact rfl; exact rfl; exact rfl; intro _ _))
  rename_i b5 _
  refine TL_callV rfl rfl rfl (fun w _ => c34 1 2 w) ?_
  repeat' (first | refine rn ?_ | (apply TL_box; exact rfl; exact rfl; exact rfl; intro _ _) | (apply TL_alloc; exact rfl; intro _ _) | (apply TL_buildSlice; exact rfl; exact rfl; exact rfl; exact rfl; exact rfl; intro _ _))
  exact TQ_ret1 Try.results33 (RV.celln rfl mm (by rfl)) (fun w' hs => ⟨b5, trivial, rfl, hs.sub (List.Sublist.cons_cons _ (List.nil_sublist _))⟩)
theorem c35 (w : World) : Calls Try.prog 35 #[] w (RetP w.heap.size w (fun q : Nat => .agg (encRd round0 (some ⟨q, 0, none⟩) 2).toArray) (fun q => [(q, .cells (round0.seas.flatMap encSn) 39)]) (fun _ => True)) := by
  refine enter (args := []) Try.func35 rfl Try.ntmps35 rfl (SH.refl _) ?_
  repeat' (first | refine rn ?_ | (apply TL_box; exact rfl; exact rfl; exact rfl; intro _ _) | (apply TL_alloc; exact rfl; intro _ _) | (apply TL_buildSlice; exact rfl; exact rfl; exact rfl; exact rfl; exact rfl; intro _ _))
  refine TL_callV rfl rfl rfl (fun w _ => c34 100 120 w) ?_
  refine TL_callV rfl rfl rfl (fun w _ => c34 10 10 w) ?_
  refine TL_callV rfl rfl rfl (fun w _ => c34 20 25 w) ?_
  refine TL_callV rfl rfl rfl (fun w _ => c34 5 6 w) ?_
  refine TL_callV rfl rfl rfl (fun w _ => c34 500 600 w) ?_
  refine TL_callV rfl rfl rfl (fun w _ => c34 50 60 w) ?_
  repeat' (first | refine rn ?_ | (apply TL_box; exact rfl; exact rfl; exact rfl; intro _ _) | (apply TL_alloc; exact rfl; intro _ _) | (apply TL_buildSlice; exact rfl; exact rfl; exact rfl; exact rfl; exact rfl; intro _ _))
  refine TL_callV rfl rfl rfl (fun w _ => c34 40 60 w) ?_
  repeat' (first | refine rn ?_ | (apply TL_box; exact rfl; exact rfl; exact rfl; intro _ _) | (apply TL_alloc; exact rfl; intro _ _) | (apply TL_buildSlice; exact rfl; exact rfl; exact rfl; exact rfl; exact rfl; intro _ _))
  rename_i b10 _
  exact TQ_ret1 Try.results35 (RV.celln rfl mm (by rfl)) (fun w' hs => ⟨b10, trivial, rfl, hs.sub (List.Sublist.cons_cons _ (List.nil_sublist _))⟩)

theorem al1 : gradesR fruit0 2 = (0, 1, 0) := by kernel_rfl
theorem al2 : cutF fruit0 bunch0 [1, 3] = (⟨(78, 113), (0, 0), (0, 0), (1, 4), (0, 0), (0, 0), (702, 1017)⟩, 0) := by kernel_rfl
theorem al3 : bestR fruit0 bunch0 2 = ([1, 3], 702, 0) := by kernel_rfl
theorem al4 : goR round0 3 = ([((80, 126), (15, 18)), ((51, 134), (18, 24))], 0, 0) := by kernel_rfl
theorem al5 : goatsP round0 = ((3, 4), 0) := by kernel_rfl
/-- The examples are met. -/
theorem c31 (w : World) : Calls Try.prog 31 #[] w (RetV w (.bool true)) := by
  have c21' := fun w => c21 fruit0 2 w
  rw [al1] at c21'
  have c23' := fun q lc w h1 h2 => c23 fruit0 bunch0 (some ⟨q, 0, none⟩) 4 [1, 3] lc 2 (by decide) (by decide) w h1 h2
  rw [al2] at c23'
  have c29' := fun q w h1 => c29 fruit0 bunch0 (some ⟨q, 0, none⟩) 4 2 (by decide) w h1
  rw [al3] at c29'
  have c15' := fun q w h1 => c15 round0 3 (some ⟨q, 0, none⟩) 2 (by decide) w h1
  rw [al4] at c15'
  have c17' := fun q w h1 => c17 round0 (some ⟨q, 0, none⟩) 2 (by decide) w h1
  rw [al5] at c17'
  refine enter (args := []) Try.func31 rfl Try.ntmps31 rfl (SH.refl _) ?_
  repeat' (first | refine rn ?_ | (apply TL_box; exact rfl; exact rfl; exact rfl; intro _ _) | (apply TL_alloc; exact rfl; intro _ _) | (apply TL_buildSlice; exact rfl; exact rfl; exact rfl; exact rfl; exact rfl; intro _ _))
  refine TL_callV rfl rfl rfl (fun w _ => c32 w) ?_
  refine TL_callV rfl rfl rfl (fun w _ => c21' w) ?_
  repeat' (first | refine rn ?_ | (apply TL_box; exact rfl; exact rfl; exact rfl; intro _ _) | (apply TL_alloc; exact rfl; intro _ _) | (apply TL_buildSlice; exact rfl; exact rfl; exact rfl; exact rfl; exact rfl; intro _ _))
  refine TL_callV rfl rfl rfl (fun w _ => c32 w) ?_
  refine TL_callN rfl rfl rfl (fun w _ => c33 w) ?_
  rintro q1 -
  try dsimp only
  repeat' (first | refine rn ?_ | (apply TL_box; exact rfl; exact rfl; exact rfl; intro _ _) | (apply TL_alloc; exact rfl; intro _ _) | (apply TL_buildSlice; exact rfl; exact rfl; exact rfl; exact rfl; exact rfl; intro _ _))
  refine TL_callV rfl rfl rfl (fun w h => c23' q1 _ w (Sl.of_blk h mm (fun _ _ => rfl) ⟨[], rfl⟩) (Sl.of_blk h mm (fun _ _ => rfl) ⟨[], rfl⟩)) ?_
  repeat' (first | refine rn ?_ | (apply TL_box; exact rfl; exact rfl; exact rfl; intro _ _) | (apply TL_alloc; exact rfl; intro _ _) | (apply TL_buildSlice; exact rfl; exact rfl; exact rfl; exact rfl; exact rfl; intro _ _))
  refine TL_callV rfl rfl rfl (fun w _ => c32 w) ?_
  refine TL_callN rfl rfl rfl (fun w _ => c33 w) ?_
  rintro q2 -
  try dsimp only
  refine TL_callN rfl rfl rfl (fun w h => c29' q2 w (Sl.of_blk h mm (fun _ _ => rfl) ⟨[], rfl⟩)) ?_
  rintro ⟨so1, sc1, ob1⟩ hrow1
  replace hrow1 : Row 3 1 encI so1 sc1 ob1 [1, 3] := hrow1
  try dsimp only
  repeat' (first | refine rn ?_ | (apply TL_box; exact rfl; exact rfl; exact rfl; intro _ _) | (apply TL_alloc; exact rfl; intro _ _) | (apply TL_buildSlice; exact rfl; exact rfl; exact rfl; exact rfl; exact rfl; intro _ _))
  refine TL_callN rfl rfl rfl (fun w _ => c35 w) ?_
  rintro q3 -
  try dsimp only
  refine TL_callN rfl rfl rfl (fun w h => c15' q3 w (Sl.of_blk h mm (fun _ _ => rfl) ⟨[], rfl⟩)) ?_
  rintro ⟨so2, sc2, ob2⟩ hrow2
  replace hrow2 : Row 97 4 encSt so2 sc2 ob2 [((80, 126), (15, 18)), ((51, 134), (18, 24))] := hrow2
  dsimp only [runV]
  repeat' (first | refine rn ?_ | (apply TL_box; exact rfl; exact rfl; exact rfl; intro _ _) | (apply TL_alloc; exact rfl; intro _ _) | (apply TL_buildSlice; exact rfl; exact rfl; exact rfl; exact rfl; exact rfl; intro _ _))
  refine TL_callN rfl rfl rfl (fun w _ => c35 w) ?_
  rintro q4 -
  try dsimp only
  refine TL_callV rfl rfl rfl (fun w h => c17' q4 w (Sl.of_blk h mm (fun _ _ => rfl) ⟨[], rfl⟩)) ?_
  repeat' (first | refine rn ?_ | (apply TL_box; exact rfl; exact rfl; exact rfl; intro _ _) | (apply TL_alloc; exact rfl; intro _ _) | (apply TL_buildSlice; exact rfl; exact rfl; exact rfl; exact rfl; exact rfl; intro _ _))
  apply TC_draw 60; kernel_rfl; exact Try.mixed
  · (refine' pv ?_; rotate_left)
    (refine' pv ?_; rotate_left)
    (refine' pv ?_; rotate_left)
    (refine' pg ?_; rotate_left)
    (refine' PG.val rfl rfl (by intro _X; (refine TL_guard_yes rfl rfl rfl ?_); refine TL_eql_same rfl rfl rfl ?_; exact qe) ?_; rotate_left)
    (refine' pv ?_; rotate_left)
    (refine' pv ?_; rotate_left)
    (refine' pg ?_; rotate_left)
    (refine' PG.val rfl rfl (by intro _X; (refine TL_guard_yes rfl rfl rfl ?_); refine TL_eql_same rfl rfl rfl ?_; exact qe) ?_; rotate_left)
    (refine' pv ?_; rotate_left)
    (refine' pv ?_; rotate_left)
    (refine' pg ?_; rotate_left)
    (refine' PG.val rfl rfl (by intro _X; (refine TL_guard_yes rfl rfl rfl ?_); refine TL_eql_same rfl rfl rfl ?_; exact qe) ?_; rotate_left)
    (refine' pv ?_; rotate_left)
    (refine' pv ?_; rotate_left)
    (refine' pg ?_; rotate_left)
    (refine' PG.val rfl rfl (by intro _X; (refine TL_guard_yes rfl rfl rfl ?_); refine TL_callV rfl rfl rfl (fun w _ => c34 78 113 w) ?_; exact qe) ?_; rotate_left)
    (refine' pg ?_; rotate_left)
    (refine' PG.val rfl rfl (by intro _X; (refine TL_guard_yes rfl rfl rfl ?_); refine TL_callV rfl rfl rfl (fun w _ => c34 1 4 w) ?_; exact qe) ?_; rotate_left)
    (refine' PG.val rfl rfl (by intro _X; (refine TL_guard_yes rfl rfl rfl ?_); refine TL_callV rfl rfl rfl (fun w _ => c34 702 1017 w) ?_; exact qe) ?_; rotate_left)
    (refine' pg ?_; rotate_left)
    (refine' PG.val rfl rfl (by intro _X; (refine TL_guard_yes rfl rfl rfl ?_); refine TL_eqlS_same rfl rfl rfl rfl rfl rfl rfl ?_; exact qe) ?_; rotate_left)
    (refine' pv ?_; rotate_left)
    (refine' pv ?_; rotate_left)
    (refine' pg ?_; rotate_left)
    (refine' PG.val rfl rfl (by intro _X; (refine TL_guard_yes rfl rfl rfl ?_); refine TL_eql_same rfl rfl rfl ?_; exact qe) ?_; rotate_left)
    (refine' pv ?_; rotate_left)
    (refine' pv ?_; rotate_left)
    (refine' pg ?_; rotate_left)
    (refine' PG.val rfl rfl (by intro _X; (refine TL_guard_yes rfl rfl rfl ?_); refine TL_eql_same rfl rfl rfl ?_; exact qe) ?_; rotate_left)
    (refine' pv ?_; rotate_left)
    (refine' pv ?_; rotate_left)
    (refine' pg ?_; rotate_left)
    (refine' PG.rel ((fun v h => ∃ b4, v = .slice (some ⟨b4, 0, none⟩) 2 2 ∧ h = [(b4, .cells [.int .i64 1, .int .i64 3] 3)])) rfl rfl (by intro _X; refine TL_guard_yes rfl rfl rfl ?_; apply TL_buildSlice; exact rfl; exact rfl; exact rfl; exact rfl; exact rfl; intro b4 _; exact TL_nil (TQ_QR (h := [(b4, _)]) rfl ⟨b4, rfl, rfl⟩ (fun _ h => h))) ?_; rotate_left)
    (refine' PG.val rfl rfl (by rintro _ _ ⟨b4, rfl, rfl⟩ _X; refine TL_guard_yes rfl rfl rfl ?_; refine TL_callV rfl rfl rfl (fun w h => c28 [1, 3] [1, 3] so1 (some ⟨b4, 0, none⟩) sc1 2 (by decide) w (hrow1.sl h (fun p hp => (by repeat (first | exact List.mem_append_left _ hp | apply List.mem_append_right | apply List.mem_cons_of_mem)))) (Sl.of_blk h mm (fun _ _ => rfl) ⟨[], rfl⟩)) ?_; exact qe) ?_; rotate_left)
    (refine' pv ?_; rotate_left)
    (refine' pv ?_; rotate_left)
    (refine' pg ?_; rotate_left)
    (refine' PG.val rfl rfl (by intro _X; (refine TL_guard_yes rfl rfl rfl ?_); refine TL_eql_same rfl rfl rfl ?_; exact qe) ?_; rotate_left)
    (refine' pv ?_; rotate_left)
    (refine' pv ?_; rotate_left)
    (refine' pg ?_; rotate_left)
    (refine' PG.val rfl rfl (by intro _X; (refine TL_guard_yes rfl rfl rfl ?_); refine TL_callV rfl rfl rfl (fun w _ => c34 80 126 w) ?_; exact qe) ?_; rotate_left)
    (refine' PG.val rfl rfl (by intro _X; (refine TL_guard_yes rfl rfl rfl ?_); refine TL_callV rfl rfl rfl (fun w _ => c34 15 18 w) ?_; exact qe) ?_; rotate_left)
    (refine' pg ?_; rotate_left)
    (refine' PG.val rfl rfl (by intro _X; (refine TL_guard_yes rfl rfl rfl ?_); refine TL_callV rfl rfl rfl (fun w _ => c34 51 134 w) ?_; exact qe) ?_; rotate_left)
    (refine' PG.val rfl rfl (by intro _X; (refine TL_guard_yes rfl rfl rfl ?_); refine TL_callV rfl rfl rfl (fun w _ => c34 18 24 w) ?_; exact qe) ?_; rotate_left)
    (refine' pg ?_; rotate_left)
    (refine' PG.rel ((fun v h => ∃ b5, v = .slice (some ⟨b5, 0, none⟩) 2 2 ∧ h = [(b5, .cells (encSt ((80, 126), (15, 18)) ++ encSt ((51, 134), (18, 24))) 97)])) rfl rfl (by intro _X; refine TL_guard_yes rfl rfl rfl ?_; apply TL_buildSlice; exact rfl; exact rfl; exact rfl; exact rfl; exact rfl; intro b5 _; exact TL_nil (TQ_QR (h := [(b5, _)]) rfl ⟨b5, rfl, rfl⟩ (fun _ h => h))) ?_; rotate_left)
    (refine' PG.val rfl rfl (by rintro _ _ ⟨b5, rfl, rfl⟩ _X; refine TL_guard_yes rfl rfl rfl ?_; refine TL_callV rfl rfl rfl (fun w h => c19 [((80, 126), (15, 18)), ((51, 134), (18, 24))] [((80, 126), (15, 18)), ((51, 134), (18, 24))] so2 (some ⟨b5, 0, none⟩) sc2 2 (by decide) w (hrow2.sl h (fun p hp => (by repeat (first | exact List.mem_append_left _ hp | apply List.mem_append_right | apply List.mem_cons_of_mem)))) (Sl.of_blk h mm (fun _ _ => rfl) ⟨[], rfl⟩)) ?_; exact qe) ?_; rotate_left)
    (refine' pv ?_; rotate_left)
    (refine' pv ?_; rotate_left)
    (refine' pg ?_; rotate_left)
    (refine' PG.val rfl rfl (by intro _X; (refine TL_guard_yes rfl rfl rfl ?_); refine TL_eql_same rfl rfl rfl ?_; exact qe) ?_; rotate_left)
    (refine' pv ?_; rotate_left)
    (refine' pv ?_; rotate_left)
    (refine' pg ?_; rotate_left)
    (refine' PG.val rfl rfl (by intro _X; (refine TL_guard_yes rfl rfl rfl ?_); refine TL_callV rfl rfl rfl (fun w _ => c34 3 4 w) ?_; exact qe) ?_; rotate_left)
    (refine' PG.val rfl rfl (by intro _X; (refine TL_guard_yes rfl rfl rfl ?_); refine TL_eqlS_same rfl rfl rfl rfl rfl rfl rfl ?_; exact qe) ?_; rotate_left)
    (refine' pv ?_; rotate_left)
    exact PG.nil
  rintro _ _ ⟨b5, rfl, rfl⟩ _ _ ⟨b4, rfl, rfl⟩
  change TL _ _ _ _ _ _ _ _ _ _ _
  repeat' (first | refine rn ?_ | (apply TL_box; exact rfl; exact rfl; exact rfl; intro _ _) | (apply TL_alloc; exact rfl; intro _ _) | (apply TL_buildSlice; exact rfl; exact rfl; exact rfl; exact rfl; exact rfl; intro _ _))
  exact TQ_ret1 Try.results31 (RV.tmp rfl) (fun w' hs => ⟨rfl, hs.below⟩)
end Go.Proofs.Ytccgplomnjpniaa
