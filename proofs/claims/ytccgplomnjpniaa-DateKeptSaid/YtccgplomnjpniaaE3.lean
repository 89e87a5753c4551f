/- Walks: the grades after some days. -/
import Derived.Test.YtccgplomnjpniaaE2
import Derived.Test.YtccgplomnjpniaaD3
namespace Go.Proofs.Ytccgplomnjpniaa
open Go Go.Eng Go.RowKit Go.Proofs
set_option maxHeartbeats 1000000
set_option maxRecDepth 10000
attribute [local irreducible] TL TC TQ

/-- The least and the greatest grade after some days. -/
def gLo (f : Ft) (d : Int) : Int := gradeR f (max (f.wet.2 - d * f.dry.1) 0)
def gHi (f : Ft) (d : Int) : Int := gradeR f (max (f.wet.1 - d * f.dry.2) 0)
/-- The products of days are small. -/
structure DayB (f : Ft) (d : Int) : Prop where
  a : 0 ≤ d * f.dry.1 ∧ d * f.dry.1 ≤ 1000000
  b : 0 ≤ d * f.dry.2 ∧ d * f.dry.2 ≤ 1000000
  c : 0 ≤ f.wet.1 ∧ f.wet.1 ≤ 1000
  e : 0 ≤ f.wet.2 ∧ f.wet.2 ≤ 1000
theorem c55 (f : Ft) (d : Int) (hb : DayB f d) (w : World) : Calls Try.prog 55 #[.agg (encFt f).toArray, .int .i64 d] w (RetV w (.agg #[.int .i64 (gLo f d), .int .i64 (gHi f d)])) := by
  obtain ⟨b1, b2, b3, b4⟩ := hb
  refine enter (args := [.agg (encFt f).toArray, .int .i64 d]) Try.func55 rfl Try.ntmps55 rfl (SH.refl _) ?_
  repeat' (first | refine rn ?_ | (apply TL_box; exact rfl; exact rfl; exact rfl; intro _ _) | (apply TL_alloc; exact rfl; intro _ _) | (apply TL_buildSlice; exact rfl; exact rfl; exact rfl; exact rfl; exact rfl; intro _ _))
  apply TC_draw 23; kernel_rfl; exact Try.mixed
  · iterate 10 (refine' pv ?_; rotate_left)
    (refine' PG.val rfl rfl (by intro _X; refine TL_callV rfl rfl rfl (fun w _ => c75 f (f.wet.2 - d * f.dry.1) w) ?_; exact qe) ?_; rotate_left)
    iterate 10 (refine' pv ?_; rotate_left)
    (refine' PG.val rfl rfl (by intro _X; refine TL_callV rfl rfl rfl (fun w _ => c75 f (f.wet.1 - d * f.dry.2) w) ?_; exact qe) ?_; rotate_left)
    (refine' pv ?_; rotate_left)
    exact PG.nil
  change TL _ _ _ _ _ _ _ _ _ _ _
  repeat' (first | refine rn ?_ | (apply TL_box; exact rfl; exact rfl; exact rfl; intro _ _) | (apply TL_alloc; exact rfl; intro _ _) | (apply TL_buildSlice; exact rfl; exact rfl; exact rfl; exact rfl; exact rfl; intro _ _))
  exact TQ_ret1 Try.results55 (RV.celln rfl mm (by rfl)) (fun w' hs => ⟨rfl, hs.below⟩)
theorem c57 (f : Ft) (d : Int) (hb : DayB f d) (w : World) : Calls Try.prog 57 #[.agg (encFt f).toArray, .int .i64 d] w (RetV w (.tuple #[.int .u8 (gLo f d), .int .u8 (gHi f d)])) := by
  obtain ⟨b1, b2, b3, b4⟩ := hb
  have e1 : gradeR f (max 0 (f.wet.2 - d * f.dry.1)) = gLo f d := by unfold gLo; rw [Int.max_comm]
  have e2 : gradeR f (max 0 (f.wet.1 - d * f.dry.2)) = gHi f d := by unfold gHi; rw [Int.max_comm]
  have c1 := fun w => c76 f (max 0 (f.wet.2 - d * f.dry.1)) w
  have c2 := fun w => c76 f (max 0 (f.wet.1 - d * f.dry.2)) w
  rw [e1] at c1
  rw [e2] at c2
  refine enter (args := [.agg (encFt f).toArray, .int .i64 d]) Try.func57 rfl Try.ntmps57 rfl (SH.refl _) ?_
  repeat' (first | refine rn ?_ | (apply TL_box; exact rfl; exact rfl; exact rfl; intro _ _) | (apply TL_alloc; exact rfl; intro _ _) | (apply TL_buildSlice; exact rfl; exact rfl; exact rfl; exact rfl; exact rfl; intro _ _))
  apply TC_draw 24; kernel_rfl; exact Try.mixed
  · iterate 11 (refine' pv ?_; rotate_left)
    (refine' PG.val rfl rfl (by intro _X; refine TL_callV rfl rfl rfl (fun w _ => c1 w) ?_; exact qe) ?_; rotate_left)
    iterate 11 (refine' pv ?_; rotate_left)
    (refine' PG.val rfl rfl (by intro _X; refine TL_callV rfl rfl rfl (fun w _ => c2 w) ?_; exact qe) ?_; rotate_left)
    exact PG.nil
  change TL _ _ _ _ _ _ _ _ _ _ _
  repeat' (first | refine rn ?_ | (apply TL_box; exact rfl; exact rfl; exact rfl; intro _ _) | (apply TL_alloc; exact rfl; intro _ _) | (apply TL_buildSlice; exact rfl; exact rfl; exact rfl; exact rfl; exact rfl; intro _ _))
  exact TQ_ret2 Try.results57 (RV.tmp rfl) (RV.tmp rfl) (fun w' hs => ⟨rfl, hs.below⟩)
end Go.Proofs.Ytccgplomnjpniaa
