/- Walks: grades of dates. -/
import Derived.Test.YtccgplomnjpniaaE1
namespace Go.Proofs.Ytccgplomnjpniaa
open Go Go.Eng Go.RowKit Go.Proofs
set_option maxHeartbeats 1000000
set_option maxRecDepth 10000
attribute [local irreducible] TL TC TQ

/-- The grade of a moisture. -/
def gradeR (f : Ft) (m : Int) : Int := if f.soft ≤ m then 0 else if f.half ≤ m then 1 else 2

theorem c76 (f : Ft) (m : Int) (w : World) : Calls Try.prog 76 #[.agg (encFt f).toArray, .int .i64 m] w (RetV w (.int .u8 (gradeR f m))) := by
  refine enter (args := [.agg (encFt f).toArray, .int .i64 m]) Try.func76 rfl Try.ntmps76 rfl (SH.refl _) ?_
  repeat' (first | refine rn ?_ | (apply TL_box; exact rfl; exact rfl; exact rfl; intro _ _) | (apply TL_alloc; exact rfl; intro _ _) | (apply TL_buildSlice; exact rfl; exact rfl; exact rfl; exact rfl; exact rfl; intro _ _))
  refine TC_cond_dec rfl (fun h1 => ?_) (fun h1 => ?_)
  · repeat' (first | refine rn ?_ | (apply TL_box; exact rfl; exact rfl; exact rfl; intro _ _) | (apply TL_alloc; exact rfl; intro _ _) | (apply TL_buildSlice; exact rfl; exact rfl; exact rfl; exact rfl; exact rfl; intro _ _))
    have e : gradeR f m = 0 := by unfold gradeR; rw [if_pos h1]
    rw [e]
    exact TQ_ret1 Try.results76 (RV.tmp rfl) (fun w' hs => ⟨rfl, hs.below⟩)
  repeat' (first | refine rn ?_ | (apply TL_box; exact rfl; exact rfl; exact rfl; intro _ _) | (apply TL_alloc; exact rfl; intro _ _) | (apply TL_buildSlice; exact rfl; exact rfl; exact rfl; exact rfl; exact rfl; intro _ _))
  refine TC_cond_dec rfl (fun h2 => ?_) (fun h2 => ?_)
  · repeat' (first | refine rn ?_ | (apply TL_box; exact rfl; exact rfl; exact rfl; intro _ _) | (apply TL_alloc; exact rfl; intro _ _) | (apply TL_buildSlice; exact rfl; exact rfl; exact rfl; exact rfl; exact rfl; intro _ _))
    have e : gradeR f m = 1 := by unfold gradeR; rw [if_neg h1, if_pos h2]
    rw [e]
    exact TQ_ret1 Try.results76 (RV.tmp rfl) (fun w' hs => ⟨rfl, hs.below⟩)
  · repeat' (first | refine rn ?_ | (apply TL_box; exact rfl; exact rfl; exact rfl; intro _ _) | (apply TL_alloc; exact rfl; intro _ _) | (apply TL_buildSlice; exact rfl; exact rfl; exact rfl; exact rfl; exact rfl; intro _ _))
    have e : gradeR f m = 2 := by unfold gradeR; rw [if_neg h1, if_neg h2]
    rw [e]
    exact TQ_ret1 Try.results76 (RV.tmp rfl) (fun w' hs => ⟨rfl, hs.below⟩)

theorem c75 (f : Ft) (m : Int) (w : World) : Calls Try.prog 75 #[.agg (encFt f).toArray, .int .i64 m] w (RetV w (.int .i64 (gradeR f (max m 0)))) := by
  refine enter (args := [.agg (encFt f).toArray, .int .i64 m]) Try.func75 rfl Try.ntmps75 rfl (SH.refl _) ?_
  repeat' (first | refine rn ?_ | (apply TL_box; exact rfl; exact rfl; exact rfl; intro _ _) | (apply TL_alloc; exact rfl; intro _ _) | (apply TL_buildSlice; exact rfl; exact rfl; exact rfl; exact rfl; exact rfl; intro _ _))
  rename_i b _
  refine TC_loop (σ := Nat) (fun k => k ≤ 2 ∧ (1 ≤ k → ¬ f.soft ≤ max m 0) ∧ (2 ≤ k → ¬ f.half ≤ max m 0)) (fun k => [(1, .int .i64 m), (11, .agg #[.int .i64 f.soft, .int .i64 f.half]), (12, .int .i64 k)]) (fun _ => []) (fun k => 2 - k) 0 ⟨by omega, fun h => by omega, fun h => by omega⟩ sb (fun w h => h.sub (List.nil_sublist _)) (fun k hk => ?_)
  have hk4 : k = 0 ∨ k = 1 ∨ k = 2 := by omega
  rcases hk4 with rfl | rfl | rfl
  · repeat' (first | refine rn ?_ | (apply TL_box; exact rfl; exact rfl; exact rfl; intro _ _) | (apply TL_alloc; exact rfl; intro _ _) | (apply TL_buildSlice; exact rfl; exact rfl; exact rfl; exact rfl; exact rfl; intro _ _))
    refine TL_indexA 0 rfl rfl rfl rfl (by omega) rfl ?_
    repeat' (first | refine rn ?_ | (apply TL_box; exact rfl; exact rfl; exact rfl; intro _ _) | (apply TL_alloc; exact rfl; intro _ _) | (apply TL_buildSlice; exact rfl; exact rfl; exact rfl; exact rfl; exact rfl; intro _ _))
    refine TC_cond_dec rfl (fun h2 => ?_) (fun h2 => ?_)
    · repeat' (first | refine rn ?_ | (apply TL_box; exact rfl; exact rfl; exact rfl; intro _ _) | (apply TL_alloc; exact rfl; intro _ _) | (apply TL_buildSlice; exact rfl; exact rfl; exact rfl; exact rfl; exact rfl; intro _ _))
      have e : gradeR f (max m 0) = 0 := by unfold gradeR; rw [if_pos h2]
      rw [e]
      exact TQ_ret1 Try.results75 (RV.tmp rfl) (fun w' hs => ⟨rfl, hs.below⟩)
    · repeat' (first | refine rn ?_ | (apply TL_box; exact rfl; exact rfl; exact rfl; intro _ _) | (apply TL_alloc; exact rfl; intro _ _) | (apply TL_buildSlice; exact rfl; exact rfl; exact rfl; exact rfl; exact rfl; intro _ _))
      exact TQ_round 1 ⟨by omega, fun _ => h2, fun h => by omega⟩ (by omega) sb (fun w h => h)
  · have h0 := hk.2.1 (by omega)
    repeat' (first | refine rn ?_ | (apply TL_box; exact rfl; exact rfl; exact rfl; intro _ _) | (apply TL_alloc; exact rfl; intro _ _) | (apply TL_buildSlice; exact rfl; exact rfl; exact rfl; exact rfl; exact rfl; intro _ _))
    refine TL_indexA 1 rfl rfl rfl rfl (by omega) rfl ?_
    repeat' (first | refine rn ?_ | (apply TL_box; exact rfl; exact rfl; exact rfl; intro _ _) | (apply TL_alloc; exact rfl; intro _ _) | (apply TL_buildSlice; exact rfl; exact rfl; exact rfl; exact rfl; exact rfl; intro _ _))
    refine TC_cond_dec rfl (fun h2 => ?_) (fun h2 => ?_)
    · repeat' (first | refine rn ?_ | (apply TL_box; exact rfl; exact rfl; exact rfl; intro _ _) | (apply TL_alloc; exact rfl; intro _ _) | (apply TL_buildSlice; exact rfl; exact rfl; exact rfl; exact rfl; exact rfl; intro _ _))
      have e : gradeR f (max m 0) = 1 := by unfold gradeR; rw [if_neg h0, if_pos h2]
      rw [e]
      exact TQ_ret1 Try.results75 (RV.tmp rfl) (fun w' hs => ⟨rfl, hs.below⟩)
    · repeat' (first | refine rn ?_ | (apply TL_box; exact rfl; exact rfl; exact rfl; intro _ _) | (apply TL_alloc; exact rfl; intro _ _) | (apply TL_buildSlice; exact rfl; exact rfl; exact rfl; exact rfl; exact rfl; intro _ _))
      exact TQ_round 2 ⟨by omega, fun _ => h0, fun _ => h2⟩ (by omega) sb (fun w h => h)
  · repeat' (first | refine rn ?_ | (apply TL_box; exact rfl; exact rfl; exact rfl; intro _ _) | (apply TL_alloc; exact rfl; intro _ _) | (apply TL_buildSlice; exact rfl; exact rfl; exact rfl; exact rfl; exact rfl; intro _ _))
    have e : gradeR f (max m 0) = 2 := by unfold gradeR; rw [if_neg (hk.2.1 (by omega)), if_neg (hk.2.2 (by omega))]
    rw [e]
    exact TQ_ret1 Try.results75 (RV.tmp rfl) (fun w' hs => ⟨rfl, hs.below⟩)
end Go.Proofs.Ytccgplomnjpniaa
