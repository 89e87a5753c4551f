/- Walks of the package date's small functions. -/
import Derived.Test.YtccgplomnjpniaaD0
namespace Go.Proofs.Ytccgplomnjpniaa
open Go Go.Eng Go.RowKit Go.Proofs
set_option maxHeartbeats 400000
attribute [local irreducible] TL TC TQ

/-- aflajref08.within -/
theorem c48 (n lo hi : Int) (w : World) : Calls Try.prog 48 #[.int .i64 n, .int .i64 lo, .int .i64 hi] w (RetV w (.bool (decide (In n lo hi)))) := by
  refine enter (args := [.int .i64 n, .int .i64 lo, .int .i64 hi]) Try.func48 rfl Try.ntmps48 rfl (SH.refl _) ?_
  repeat' (first | refine rn ?_ | (apply TL_box; exact rfl; exact rfl; exact rfl; intro _ _) | (apply TL_alloc; exact rfl; intro _ _) | (apply TL_buildSlice; exact rfl; exact rfl; exact rfl; exact rfl; exact rfl; intro _ _) | (refine TL_gsplit_dec rfl rfl (fun _ => ?_) (fun _ => ?_)))
  all_goals (refine TQ_ret1 Try.results48 (RV.tmp rfl) (fun w' hs => ⟨?_, hs.below⟩); simp [In, *])

/-- aflajref08.ordered -/
theorem c68 (s : Sp) (lo hi : Int) (w : World) : Calls Try.prog 68 #[.agg (encSp s).toArray, .int .i64 lo, .int .i64 hi] w (RetV w (.bool (decide (Ord s lo hi)))) := by
  refine enter (args := [.agg (encSp s).toArray, .int .i64 lo, .int .i64 hi]) Try.func68 rfl Try.ntmps68 rfl (SH.refl _) ?_
  repeat' (first | refine rn ?_ | (apply TL_box; exact rfl; exact rfl; exact rfl; intro _ _) | (apply TL_alloc; exact rfl; intro _ _) | (apply TL_buildSlice; exact rfl; exact rfl; exact rfl; exact rfl; exact rfl; intro _ _) | (refine TL_gsplit_dec rfl rfl (fun _ => ?_) (fun _ => ?_)))
  all_goals (refine TQ_ret1 Try.results68 (RV.tmp rfl) (fun w' hs => ⟨?_, hs.below⟩); simp [Ord, *])

/-- aflajref08.add -/
theorem c74 (a b : Sp) (w : World) (h1 : -4611686018427387904 ≤ a.1 ∧ a.1 ≤ 4611686018427387903) (h2 : -4611686018427387904 ≤ a.2 ∧ a.2 ≤ 4611686018427387903) (h3 : -4611686018427387904 ≤ b.1 ∧ b.1 ≤ 4611686018427387903) (h4 : -4611686018427387904 ≤ b.2 ∧ b.2 ≤ 4611686018427387903) :
    Calls Try.prog 74 #[.agg (encSp a).toArray, .agg (encSp b).toArray] w (RetV w (.agg (encSp (a.1 + b.1, a.2 + b.2)).toArray)) := by
  refine enter (args := [.agg (encSp a).toArray, .agg (encSp b).toArray]) Try.func74 rfl Try.ntmps74 rfl (SH.refl _) ?_
  repeat' (first | refine rn ?_ | (apply TL_box; exact rfl; exact rfl; exact rfl; intro _ _) | (apply TL_alloc; exact rfl; intro _ _) | (apply TL_buildSlice; exact rfl; exact rfl; exact rfl; exact rfl; exact rfl; intro _ _))
  exact TQ_ret1 Try.results74 (RV.celln rfl mm (by rfl)) (fun w' hs => ⟨rfl, hs.below⟩)
end Go.Proofs.Ytccgplomnjpniaa
