/- Walks: Grades, of both. -/
import Derived.Test.YtccgplomnjpniaaE6
namespace Go.Proofs.Ytccgplomnjpniaa
open Go Go.Eng Go.RowKit Go.Proofs
set_option maxHeartbeats 1000000
set_option maxRecDepth 10000
attribute [local irreducible] TL TC TQ

def gradesR (f : Ft) (d : Int) : Int × Int × Int := if ¬ OkFt f then (0, 0, 80) else if ¬ In d 0 30 then (0, 0, 2) else (gLo f d, gHi f d, 0)
def gradesV (q : Int × Int × Int) : Value := .tuple #[.int .u8 q.1, .int .u8 q.2.1, .int .i64 q.2.2]
theorem dayB {f : Ft} (hf : OkFt f) {d : Int} (hd : In d 0 30) : DayB f d := by
  obtain ⟨h1, h2, _⟩ := hf
  simp only [Ord, In] at *
  have e1 := Int.mul_nonneg hd.1 h2.1
  have e2 := Int.mul_nonneg hd.1 (Int.le_trans h2.1 h2.2.1)
  have e3 : d * f.dry.1 ≤ 30 * 100 := Int.mul_le_mul hd.2 (Int.le_trans h2.2.1 h2.2.2) h2.1 (by omega)
  have e4 : d * f.dry.2 ≤ 30 * 100 := Int.mul_le_mul hd.2 h2.2.2 (Int.le_trans h2.1 h2.2.1) (by omega)
  exact ⟨⟨e1, by omega⟩, ⟨e2, by omega⟩, by omega, by omega⟩
theorem gradeR_range (f : Ft) (m : Int) : gradeR f m = 0 ∨ gradeR f m = 1 ∨ gradeR f m = 2 := by
  unfold gradeR; split
  · exact .inl rfl
  · split
    · exact .inr (.inl rfl)
    · exact .inr (.inr rfl)
theorem wrap_grade (f : Ft) (m : Int) : IntKind.u8.wrap (gradeR f m) = gradeR f m := by
  rcases gradeR_range f m with h | h | h <;> rw [h] <;> rfl

theorem c22 (f : Ft) (d : Int) (w : World) : Calls Try.prog 22 #[.agg (encFt f).toArray, .int .i64 d] w (RetV w (gradesV (gradesR f d))) := by
  refine enter (args := [.agg (encFt f).toArray, .int .i64 d]) Try.func22 rfl Try.ntmps22 rfl (SH.refl _) ?_
  repeat' (first | refine rn ?_ | (apply TL_box; exact rfl; exact rfl; exact rfl; intro _ _) | (apply TL_alloc; exact rfl; intro _ _) | (apply TL_buildSlice; exact rfl; exact rfl; exact rfl; exact rfl; exact rfl; intro _ _))
  refine TL_callV rfl rfl rfl (fun w _ => c56 f w) ?_
  repeat' (first | refine rn ?_ | (apply TL_box; exact rfl; exact rfl; exact rfl; intro _ _) | (apply TL_alloc; exact rfl; intro _ _) | (apply TL_buildSlice; exact rfl; exact rfl; exact rfl; exact rfl; exact rfl; intro _ _))
  refine TC_cond_dec rfl (fun g1 => ?_) (fun g1 => ?_)
  · repeat' (first | refine rn ?_ | (apply TL_box; exact rfl; exact rfl; exact rfl; intro _ _) | (apply TL_alloc; exact rfl; intro _ _) | (apply TL_buildSlice; exact rfl; exact rfl; exact rfl; exact rfl; exact rfl; intro _ _))
    have e : gradesR f d = (0, 0, 80) := by unfold gradesR; rw [if_pos g1]
    rw [e]
    exact TQ_ret3 Try.results22 (RV.tmp rfl) (RV.tmp rfl) (RV.tmp rfl) (fun w' hs => ⟨rfl, hs.below⟩)
  repeat' (first | refine rn ?_ | (apply TL_box; exact rfl; exact rfl; exact rfl; intro _ _) | (apply TL_alloc; exact rfl; intro _ _) | (apply TL_buildSlice; exact rfl; exact rfl; exact rfl; exact rfl; exact rfl; intro _ _))
  refine TL_callV rfl rfl rfl (fun w _ => c48 d 0 30 w) ?_
  repeat' (first | refine rn ?_ | (apply TL_box; exact rfl; exact rfl; exact rfl; intro _ _) | (apply TL_alloc; exact rfl; intro _ _) | (apply TL_buildSlice; exact rfl; exact rfl; exact rfl; exact rfl; exact rfl; intro _ _))
  refine TC_cond_dec rfl (fun g2 => ?_) (fun g2 => ?_)
  · repeat' (first | refine rn ?_ | (apply TL_box; exact rfl; exact rfl; exact rfl; intro _ _) | (apply TL_alloc; exact rfl; intro _ _) | (apply TL_buildSlice; exact rfl; exact rfl; exact rfl; exact rfl; exact rfl; intro _ _))
    have e : gradesR f d = (0, 0, 2) := by unfold gradesR; rw [if_neg g1, if_pos g2]
    rw [e]
    exact TQ_ret3 Try.results22 (RV.tmp rfl) (RV.tmp rfl) (RV.tmp rfl) (fun w' hs => ⟨rfl, hs.below⟩)
  have e : gradesR f d = (gLo f d, gHi f d, 0) := by unfold gradesR; rw [if_neg g1, if_neg g2]
  rw [e]
  have hb := dayB (Classical.not_not.1 g1) (Classical.not_not.1 g2)
  repeat' (first | refine rn ?_ | (apply TL_box; exact rfl; exact rfl; exact rfl; intro _ _) | (apply TL_alloc; exact rfl; intro _ _) | (apply TL_buildSlice; exact rfl; exact rfl; exact rfl; exact rfl; exact rfl; intro _ _))
  refine TL_callV rfl rfl rfl (fun w _ => c57 f d hb w) ?_
  repeat' (first | refine rn ?_ | (apply TL_box; exact rfl; exact rfl; exact rfl; intro _ _) | (apply TL_alloc; exact rfl; intro _ _) | (apply TL_buildSlice; exact rfl; exact rfl; exact rfl; exact rfl; exact rfl; intro _ _))
  exact TQ_ret3 Try.results22 (RV.tmp rfl) (RV.tmp rfl) (RV.tmp rfl) (fun w' hs => ⟨rfl, hs.below⟩)

theorem c21 (f : Ft) (d : Int) (w : World) : Calls Try.prog 21 #[.agg (encFt f).toArray, .int .i64 d] w (RetV w (gradesV (gradesR f d))) := by
  refine enter (args := [.agg (encFt f).toArray, .int .i64 d]) Try.func21 rfl Try.ntmps21 rfl (SH.refl _) ?_
  repeat' (first | refine rn ?_ | (apply TL_box; exact rfl; exact rfl; exact rfl; intro _ _) | (apply TL_alloc; exact rfl; intro _ _) | (apply TL_buildSlice; exact rfl; exact rfl; exact rfl; exact rfl; exact rfl; intro _ _))
  refine TL_callV rfl rfl rfl (fun w _ => c54 f w) ?_
  repeat' (first | refine rn ?_ | (apply TL_box; exact rfl; exact rfl; exact rfl; intro _ _) | (apply TL_alloc; exact rfl; intro _ _) | (apply TL_buildSlice; exact rfl; exact rfl; exact rfl; exact rfl; exact rfl; intro _ _))
  refine TC_cond_dec rfl (fun g1 => ?_) (fun g1 => ?_)
  · repeat' (first | refine rn ?_ | (apply TL_box; exact rfl; exact rfl; exact rfl; intro _ _) | (apply TL_alloc; exact rfl; intro _ _) | (apply TL_buildSlice; exact rfl; exact rfl; exact rfl; exact rfl; exact rfl; intro _ _))
    have e : gradesR f d = (0, 0, 80) := by unfold gradesR; rw [if_pos g1]
    rw [e]
    exact TQ_ret3 Try.results21 (RV.tmp rfl) (RV.tmp rfl) (RV.tmp rfl) (fun w' hs => ⟨rfl, hs.below⟩)
  repeat' (first | refine rn ?_ | (apply TL_box; exact rfl; exact rfl; exact rfl; intro _ _) | (apply TL_alloc; exact rfl; intro _ _) | (apply TL_buildSlice; exact rfl; exact rfl; exact rfl; exact rfl; exact rfl; intro _ _))
  refine TL_callV rfl rfl rfl (fun w h => c46 0 30 [d] _ 1 (by simp) w (Sl.of_blk h mm (fun y _ => rfl) ⟨[], rfl⟩)) ?_
  repeat' (first | refine rn ?_ | (apply TL_box; exact rfl; exact rfl; exact rfl; intro _ _) | (apply TL_alloc; exact rfl; intro _ _) | (apply TL_buildSlice; exact rfl; exact rfl; exact rfl; exact rfl; exact rfl; intro _ _))
  have hin : (∀ y ∈ [d], In y 0 30) ↔ In d 0 30 := by simp
  refine TC_cond_dec rfl (fun g2 => ?_) (fun g2 => ?_)
  · rw [hin] at g2
    repeat' (first | refine rn ?_ | (apply TL_box; exact rfl; exact rfl; exact rfl; intro _ _) | (apply TL_alloc; exact rfl; intro _ _) | (apply TL_buildSlice; exact rfl; exact rfl; exact rfl; exact rfl; exact rfl; intro _ _))
    have e : gradesR f d = (0, 0, 2) := by unfold gradesR; rw [if_neg g1, if_pos g2]
    rw [e]
    exact TQ_ret3 Try.results21 (RV.tmp rfl) (RV.tmp rfl) (RV.tmp rfl) (fun w' hs => ⟨rfl, hs.below⟩)
  rw [hin] at g2
  have e : gradesR f d = (gLo f d, gHi f d, 0) := by unfold gradesR; rw [if_neg g1, if_neg g2]
  rw [e]
  have hb := dayB (Classical.not_not.1 g1) (Classical.not_not.1 g2)
  have w1 : IntKind.u8.wrap (gLo f d) = gLo f d := wrap_grade f _
  have w2 : IntKind.u8.wrap (gHi f d) = gHi f d := wrap_grade f _
  repeat' (first | refine rn ?_ | (apply TL_box; exact rfl; exact rfl; exact rfl; intro _ _) | (apply TL_alloc; exact rfl; intro _ _) | (apply TL_buildSlice; exact rfl; exact rfl; exact rfl; exact rfl; exact rfl; intro _ _))
  refine TL_callV rfl rfl rfl (fun w _ => c55 f d hb w) ?_
  repeat' (first | refine rn ?_ | (apply TL_box; exact rfl; exact rfl; exact rfl; intro _ _) | (apply TL_alloc; exact rfl; intro _ _) | (apply TL_buildSlice; exact rfl; exact rfl; exact rfl; exact rfl; exact rfl; intro _ _))
  apply TC_draw 9; kernel_rfl; exact Try.mixed
  · (refine' PG.val rfl rfl (by intro _X; refine TL_indexAddrA 0 rfl rfl rfl rfl (by omega) ?_; exact qe) ?_; rotate_left)
    iterate 2 (refine' pv ?_; rotate_left)
    (refine' PG.val rfl rfl (by intro _X; refine TL_indexAddrA 1 rfl rfl rfl rfl (by omega) ?_; exact qe) ?_; rotate_left)
    iterate 5 (refine' pv ?_; rotate_left)
    exact PG.nil
  change TL _ _ _ _ _ _ _ _ _ _ _
  repeat' (first | refine rn ?_ | (apply TL_box; exact rfl; exact rfl; exact rfl; intro _ _) | (apply TL_alloc; exact rfl; intro _ _) | (apply TL_buildSlice; exact rfl; exact rfl; exact rfl; exact rfl; exact rfl; intro _ _))
  exact TQ_ret3 Try.results21 (RV.tmp rfl) (RV.tmp rfl) (RV.tmp rfl) (fun w' hs => ⟨by rw [w1, w2]; rfl, hs.below⟩)
end Go.Proofs.Ytccgplomnjpniaa
