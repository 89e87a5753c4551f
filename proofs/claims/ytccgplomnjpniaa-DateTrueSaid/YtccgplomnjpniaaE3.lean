/- Walks: date.ripens, aflajref08.Fruit. -/
import Derived.Test.YtccgplomnjpniaaE0
import Derived.Test.YtccgplomnjpniaaD8
import Derived.Test.YtccgplomnjpniaaD1
import Derived.Test.YtccgplomnjpniaaD3
namespace Go.Proofs.Ytccgplomnjpniaa
open Go Go.Eng Go.RowKit Go.Proofs
set_option maxHeartbeats 1000000
set_option maxRecDepth 10000
attribute [local irreducible] TL TC TQ

theorem c54 (f : Ft) (w : World) : Calls Try.prog 54 #[.agg (encFt f).toArray] w (RetV w (.bool (decide (OkFt f)))) := by
  refine enter (args := [.agg (encFt f).toArray]) Try.func54 rfl Try.ntmps54 rfl (SH.refl _) ?_
  repeat' (first | refine rn ?_ | (apply TL_box; exact rfl; exact rfl; exact rfl; intro _ _) | (apply TL_alloc; exact rfl; intro _ _) | (apply TL_buildSlice; exact rfl; exact rfl; exact rfl; exact rfl; exact rfl; intro _ _))
  refine TL_callV rfl rfl rfl (fun w h => c62 0 1000 [f.wet] _ 1 (by simp) w (Sl.of_blk h mm (fun y _ => rfl) ⟨[], rfl⟩)) ?_
  repeat' (first | refine rn ?_ | (apply TL_box; exact rfl; exact rfl; exact rfl; intro _ _) | (apply TL_alloc; exact rfl; intro _ _) | (apply TL_buildSlice; exact rfl; exact rfl; exact rfl; exact rfl; exact rfl; intro _ _))
  refine TL_gsplit_dec rfl rfl (fun g1 => ?_) (fun g1 => ?_)
  rotate_left
  · repeat' (first | refine rn ?_ | (apply TL_box; exact rfl; exact rfl; exact rfl; intro _ _) | (apply TL_alloc; exact rfl; intro _ _) | (apply TL_buildSlice; exact rfl; exact rfl; exact rfl; exact rfl; exact rfl; intro _ _))
    refine TQ_ret1 Try.results54 (RV.tmp rfl) (fun w' hs => RetV.no (fun h => g1 ?_) hs.below)
    simp [h.1]
  repeat' (first | refine rn ?_ | (apply TL_box; exact rfl; exact rfl; exact rfl; intro _ _) | (apply TL_alloc; exact rfl; intro _ _) | (apply TL_buildSlice; exact rfl; exact rfl; exact rfl; exact rfl; exact rfl; intro _ _))
  refine TL_callV rfl rfl rfl (fun w h => c62 0 100 [f.dry] _ 1 (by simp) w (Sl.of_blk h mm (fun y _ => rfl) ⟨[], rfl⟩)) ?_
  repeat' (first | refine rn ?_ | (apply TL_box; exact rfl; exact rfl; exact rfl; intro _ _) | (apply TL_alloc; exact rfl; intro _ _) | (apply TL_buildSlice; exact rfl; exact rfl; exact rfl; exact rfl; exact rfl; intro _ _))
  refine TL_gsplit_dec rfl rfl (fun g2 => ?_) (fun g2 => ?_)
  rotate_left
  · repeat' (first | refine rn ?_ | (apply TL_box; exact rfl; exact rfl; exact rfl; intro _ _) | (apply TL_alloc; exact rfl; intro _ _) | (apply TL_buildSlice; exact rfl; exact rfl; exact rfl; exact rfl; exact rfl; intro _ _))
    refine TQ_ret1 Try.results54 (RV.tmp rfl) (fun w' hs => RetV.no (fun h => g2 ?_) hs.below)
    simp [h.2.1]
  repeat' (first | refine rn ?_ | (apply TL_box; exact rfl; exact rfl; exact rfl; intro _ _) | (apply TL_alloc; exact rfl; intro _ _) | (apply TL_buildSlice; exact rfl; exact rfl; exact rfl; exact rfl; exact rfl; intro _ _))
  refine TL_callV rfl rfl rfl (fun w h => c46 0 1000 [f.half, f.soft] _ 2 (by simp) w (Sl.of_blk h mm (fun y _ => rfl) ⟨[], rfl⟩)) ?_
  repeat' (first | refine rn ?_ | (apply TL_box; exact rfl; exact rfl; exact rfl; intro _ _) | (apply TL_alloc; exact rfl; intro _ _) | (apply TL_buildSlice; exact rfl; exact rfl; exact rfl; exact rfl; exact rfl; intro _ _))
  refine TL_gsplit_dec rfl rfl (fun g3 => ?_) (fun g3 => ?_)
  rotate_left
  · repeat' (first | refine rn ?_ | (apply TL_box; exact rfl; exact rfl; exact rfl; intro _ _) | (apply TL_alloc; exact rfl; intro _ _) | (apply TL_buildSlice; exact rfl; exact rfl; exact rfl; exact rfl; exact rfl; intro _ _))
    refine TQ_ret1 Try.results54 (RV.tmp rfl) (fun w' hs => RetV.no (fun h => g3 ?_) hs.below)
    simp [h.2.2.1, h.2.2.2.1]
  repeat' (first | refine rn ?_ | (apply TL_box; exact rfl; exact rfl; exact rfl; intro _ _) | (apply TL_alloc; exact rfl; intro _ _) | (apply TL_buildSlice; exact rfl; exact rfl; exact rfl; exact rfl; exact rfl; intro _ _))
  refine TL_gsplit_dec rfl rfl (fun g4 => ?_) (fun g4 => ?_)
  rotate_left
  · repeat' (first | refine rn ?_ | (apply TL_box; exact rfl; exact rfl; exact rfl; intro _ _) | (apply TL_alloc; exact rfl; intro _ _) | (apply TL_buildSlice; exact rfl; exact rfl; exact rfl; exact rfl; exact rfl; intro _ _))
    exact TQ_ret1 Try.results54 (RV.tmp rfl) (fun w' hs => RetV.no (fun h => g4 h.2.2.2.2.1) hs.below)
  repeat' (first | refine rn ?_ | (apply TL_box; exact rfl; exact rfl; exact rfl; intro _ _) | (apply TL_alloc; exact rfl; intro _ _) | (apply TL_buildSlice; exact rfl; exact rfl; exact rfl; exact rfl; exact rfl; intro _ _))
  refine TL_callV rfl rfl rfl (fun w h => c46 0 30 [f.keep] _ 1 (by simp) w (Sl.of_blk h mm (fun y _ => rfl) ⟨[], rfl⟩)) ?_
  repeat' (first | refine rn ?_ | (apply TL_box; exact rfl; exact rfl; exact rfl; intro _ _) | (apply TL_alloc; exact rfl; intro _ _) | (apply TL_buildSlice; exact rfl; exact rfl; exact rfl; exact rfl; exact rfl; intro _ _))
  refine TL_gsplit_dec rfl rfl (fun g5 => ?_) (fun g5 => ?_)
  rotate_left
  · repeat' (first | refine rn ?_ | (apply TL_box; exact rfl; exact rfl; exact rfl; intro _ _) | (apply TL_alloc; exact rfl; intro _ _) | (apply TL_buildSlice; exact rfl; exact rfl; exact rfl; exact rfl; exact rfl; intro _ _))
    refine TQ_ret1 Try.results54 (RV.tmp rfl) (fun w' hs => RetV.no (fun h => g5 ?_) hs.below)
    simp [h.2.2.2.2.2.1]
  repeat' (first | refine rn ?_ | (apply TL_box; exact rfl; exact rfl; exact rfl; intro _ _) | (apply TL_alloc; exact rfl; intro _ _) | (apply TL_buildSlice; exact rfl; exact rfl; exact rfl; exact rfl; exact rfl; intro _ _))
  refine TL_sliceA rfl (by omega) rfl ?_
  repeat' (first | refine rn ?_ | (apply TL_box; exact rfl; exact rfl; exact rfl; intro _ _) | (apply TL_alloc; exact rfl; intro _ _) | (apply TL_buildSlice; exact rfl; exact rfl; exact rfl; exact rfl; exact rfl; intro _ _))
  refine TL_callV rfl rfl rfl (fun w h => c46 0 1000 [f.p0, f.p1, f.p2] _ 3 (by simp) w (Sl.of_blk_off h mm (fun y _ => rfl) ⟨[], rfl⟩)) ?_
  repeat' (first | refine rn ?_ | (apply TL_box; exact rfl; exact rfl; exact rfl; intro _ _) | (apply TL_alloc; exact rfl; intro _ _) | (apply TL_buildSlice; exact rfl; exact rfl; exact rfl; exact rfl; exact rfl; intro _ _))
  refine TQ_ret1 Try.results54 (RV.tmp rfl) (fun w' hs => ⟨?_, hs.below⟩)
  have : (∀ y ∈ [f.p0, f.p1, f.p2], In y 0 1000) ↔ OkFt f := by
    simp at g1 g2 g3 g5 ⊢
    exact ⟨fun h => ⟨g1, g2, g3.1, g3.2, g4, g5, h.1, h.2.1, h.2.2⟩, fun h => h.2.2.2.2.2.2⟩
  rw [decide_eq_decide.2 this]

theorem c56 (f : Ft) (w : World) : Calls Try.prog 56 #[.agg (encFt f).toArray] w (RetV w (.bool (decide (OkFt f)))) := by
  refine enter (args := [.agg (encFt f).toArray]) Try.func56 rfl Try.ntmps56 rfl (SH.refl _) ?_
  repeat' (first | refine rn ?_ | (apply TL_box; exact rfl; exact rfl; exact rfl; intro _ _) | (apply TL_alloc; exact rfl; intro _ _) | (apply TL_buildSlice; exact rfl; exact rfl; exact rfl; exact rfl; exact rfl; intro _ _))
  rename_i b _
  refine TC_loop (σ := Nat) (fun k => k ≤ 3 ∧ (1 ≤ k → In f.p0 0 1000) ∧ (2 ≤ k → In f.p1 0 1000) ∧ (3 ≤ k → In f.p2 0 1000)) (fun k => [(1, .pointer (some ⟨b, 0, none⟩)), (3, .int .i64 k)]) (fun _ => [(b, .cells (encFt f) 43)]) (fun k => 3 - k) 0 ⟨by omega, fun h => by omega, fun h => by omega, fun h => by omega⟩ sb (fun w h => h) (fun k hk => ?_)
  have hk4 : k = 0 ∨ k = 1 ∨ k = 2 ∨ k = 3 := by omega
  rcases hk4 with rfl | rfl | rfl | rfl
  · repeat' (first | refine rn ?_ | (apply TL_box; exact rfl; exact rfl; exact rfl; intro _ _) | (apply TL_alloc; exact rfl; intro _ _) | (apply TL_buildSlice; exact rfl; exact rfl; exact rfl; exact rfl; exact rfl; intro _ _))
    refine TL_indexAddrA 0 rfl rfl rfl rfl (by omega) ?_
    repeat' (first | refine rn ?_ | (apply TL_box; exact rfl; exact rfl; exact rfl; intro _ _) | (apply TL_alloc; exact rfl; intro _ _) | (apply TL_buildSlice; exact rfl; exact rfl; exact rfl; exact rfl; exact rfl; intro _ _))
    refine TL_callV rfl rfl rfl (fun w _ => c48 f.p0 0 1000 w) ?_
    repeat' (first | refine rn ?_ | (apply TL_box; exact rfl; exact rfl; exact rfl; intro _ _) | (apply TL_alloc; exact rfl; intro _ _) | (apply TL_buildSlice; exact rfl; exact rfl; exact rfl; exact rfl; exact rfl; intro _ _))
    refine TC_cond_dec rfl (fun h2 => ?_) (fun h2 => ?_)
    · repeat' (first | refine rn ?_ | (apply TL_box; exact rfl; exact rfl; exact rfl; intro _ _) | (apply TL_alloc; exact rfl; intro _ _) | (apply TL_buildSlice; exact rfl; exact rfl; exact rfl; exact rfl; exact rfl; intro _ _))
      exact TQ_ret1 Try.results56 (RV.tmp rfl) (fun w' hs => RetV.no (fun h => h2 h.2.2.2.2.2.2.1) hs.below)
    · repeat' (first | refine rn ?_ | (apply TL_box; exact rfl; exact rfl; exact rfl; intro _ _) | (apply TL_alloc; exact rfl; intro _ _) | (apply TL_buildSlice; exact rfl; exact rfl; exact rfl; exact rfl; exact rfl; intro _ _))
      have g0 := Classical.not_not.1 h2
      exact TQ_round (0 + 1) ⟨by omega, fun _ => g0, fun h => by omega, fun h => by omega⟩ (by omega) sb (fun w h => h)
  · repeat' (first | refine rn ?_ | (apply TL_box; exact rfl; exact rfl; exact rfl; intro _ _) | (apply TL_alloc; exact rfl; intro _ _) | (apply TL_buildSlice; exact rfl; exact rfl; exact rfl; exact rfl; exact rfl; intro _ _))
    refine TL_indexAddrA 1 rfl rfl rfl rfl (by omega) ?_
    repeat' (first | refine rn ?_ | (apply TL_box; exact rfl; exact rfl; exact rfl; intro _ _) | (apply TL_alloc; exact rfl; intro _ _) | (apply TL_buildSlice; exact rfl; exact rfl; exact rfl; exact rfl; exact rfl; intro _ _))
    refine TL_callV rfl rfl rfl (fun w _ => c48 f.p1 0 1000 w) ?_
    repeat' (first | refine rn ?_ | (apply TL_box; exact rfl; exact rfl; exact rfl; intro _ _) | (apply TL_alloc; exact rfl; intro _ _) | (apply TL_buildSlice; exact rfl; exact rfl; exact rfl; exact rfl; exact rfl; intro _ _))
    refine TC_cond_dec rfl (fun h2 => ?_) (fun h2 => ?_)
    · repeat' (first | refine rn ?_ | (apply TL_box; exact rfl; exact rfl; exact rfl; intro _ _) | (apply TL_alloc; exact rfl; intro _ _) | (apply TL_buildSlice; exact rfl; exact rfl; exact rfl; exact rfl; exact rfl; intro _ _))
      exact TQ_ret1 Try.results56 (RV.tmp rfl) (fun w' hs => RetV.no (fun h => h2 h.2.2.2.2.2.2.2.1) hs.below)
    · repeat' (first | refine rn ?_ | (apply TL_box; exact rfl; exact rfl; exact rfl; intro _ _) | (apply TL_alloc; exact rfl; intro _ _) | (apply TL_buildSlice; exact rfl; exact rfl; exact rfl; exact rfl; exact rfl; intro _ _))
      have g0 := Classical.not_not.1 h2
      exact TQ_round (1 + 1) ⟨by omega, fun _ => hk.2.1 (by omega), fun _ => g0, fun h => by omega⟩ (by omega) sb (fun w h => h)
  · repeat' (first | refine rn ?_ | (apply TL_box; exact rfl; exact rfl; exact rfl; intro _ _) | (apply TL_alloc; exact rfl; intro _ _) | (apply TL_buildSlice; exact rfl; exact rfl; exact rfl; exact rfl; exact rfl; intro _ _))
    refine TL_indexAddrA 2 rfl rfl rfl rfl (by omega) ?_
    repeat' (first | refine rn ?_ | (apply TL_box; exact rfl; exact rfl; exact rfl; intro _ _) | (apply TL_alloc; exact rfl; intro _ _) | (apply TL_buildSlice; exact rfl; exact rfl; exact rfl; exact rfl; exact rfl; intro _ _))
    refine TL_callV rfl rfl rfl (fun w _ => c48 f.p2 0 1000 w) ?_
    repeat' (first | refine rn ?_ | (apply TL_box; exact rfl; exact rfl; exact rfl; intro _ _) | (apply TL_alloc; exact rfl; intro _ _) | (apply TL_buildSlice; exact rfl; exact rfl; exact rfl; exact rfl; exact rfl; intro _ _))
    refine TC_cond_dec rfl (fun h2 => ?_) (fun h2 => ?_)
    · repeat' (first | refine rn ?_ | (apply TL_box; exact rfl; exact rfl; exact rfl; intro _ _) | (apply TL_alloc; exact rfl; intro _ _) | (apply TL_buildSlice; exact rfl; exact rfl; exact rfl; exact rfl; exact rfl; intro _ _))
      exact TQ_ret1 Try.results56 (RV.tmp rfl) (fun w' hs => RetV.no (fun h => h2 h.2.2.2.2.2.2.2.2) hs.below)
    · repeat' (first | refine rn ?_ | (apply TL_box; exact rfl; exact rfl; exact rfl; intro _ _) | (apply TL_alloc; exact rfl; intro _ _) | (apply TL_buildSlice; exact rfl; exact rfl; exact rfl; exact rfl; exact rfl; intro _ _))
      have g0 := Classical.not_not.1 h2
      exact TQ_round (2 + 1) ⟨by omega, fun _ => hk.2.1 (by omega), fun _ => hk.2.2.1 (by omega), fun _ => g0⟩ (by omega) sb (fun w h => h)
  · repeat' (first | refine rn ?_ | (apply TL_box; exact rfl; exact rfl; exact rfl; intro _ _) | (apply TL_alloc; exact rfl; intro _ _) | (apply TL_buildSlice; exact rfl; exact rfl; exact rfl; exact rfl; exact rfl; intro _ _))
    have g6 := hk.2.1 (by omega)
    have g7 := hk.2.2.1 (by omega)
    have g8 := hk.2.2.2 (by omega)
    repeat' (first | refine rn ?_ | (apply TL_box; exact rfl; exact rfl; exact rfl; intro _ _) | (apply TL_alloc; exact rfl; intro _ _) | (apply TL_buildSlice; exact rfl; exact rfl; exact rfl; exact rfl; exact rfl; intro _ _))
    refine TL_callV rfl rfl rfl (fun w _ => c68 f.wet 0 1000 w) ?_
    repeat' (first | refine rn ?_ | (apply TL_box; exact rfl; exact rfl; exact rfl; intro _ _) | (apply TL_alloc; exact rfl; intro _ _) | (apply TL_buildSlice; exact rfl; exact rfl; exact rfl; exact rfl; exact rfl; intro _ _))
    refine TL_gsplit_dec rfl rfl (fun g1 => ?_) (fun g1 => ?_)
    rotate_left
    · repeat' (first | refine rn ?_ | (apply TL_box; exact rfl; exact rfl; exact rfl; intro _ _) | (apply TL_alloc; exact rfl; intro _ _) | (apply TL_buildSlice; exact rfl; exact rfl; exact rfl; exact rfl; exact rfl; intro _ _))
      exact TQ_ret1 Try.results56 (RV.tmp rfl) (fun w' hs => RetV.no (fun h => g1 h.1) hs.below)
    repeat' (first | refine rn ?_ | (apply TL_box; exact rfl; exact rfl; exact rfl; intro _ _) | (apply TL_alloc; exact rfl; intro _ _) | (apply TL_buildSlice; exact rfl; exact rfl; exact rfl; exact rfl; exact rfl; intro _ _))
    refine TL_callV rfl rfl rfl (fun w _ => c68 f.dry 0 100 w) ?_
    repeat' (first | refine rn ?_ | (apply TL_box; exact rfl; exact rfl; exact rfl; intro _ _) | (apply TL_alloc; exact rfl; intro _ _) | (apply TL_buildSlice; exact rfl; exact rfl; exact rfl; exact rfl; exact rfl; intro _ _))
    refine TL_gsplit_dec rfl rfl (fun g2 => ?_) (fun g2 => ?_)
    rotate_left
    · repeat' (first | refine rn ?_ | (apply TL_box; exact rfl; exact rfl; exact rfl; intro _ _) | (apply TL_alloc; exact rfl; intro _ _) | (apply TL_buildSlice; exact rfl; exact rfl; exact rfl; exact rfl; exact rfl; intro _ _))
      exact TQ_ret1 Try.results56 (RV.tmp rfl) (fun w' hs => RetV.no (fun h => g2 h.2.1) hs.below)
    repeat' (first | refine rn ?_ | (apply TL_box; exact rfl; exact rfl; exact rfl; intro _ _) | (apply TL_alloc; exact rfl; intro _ _) | (apply TL_buildSlice; exact rfl; exact rfl; exact rfl; exact rfl; exact rfl; intro _ _))
    refine TL_gsplit_dec rfl rfl (fun g3 => ?_) (fun g3 => ?_)
    rotate_left
    · repeat' (first | refine rn ?_ | (apply TL_box; exact rfl; exact rfl; exact rfl; intro _ _) | (apply TL_alloc; exact rfl; intro _ _) | (apply TL_buildSlice; exact rfl; exact rfl; exact rfl; exact rfl; exact rfl; intro _ _))
      exact TQ_ret1 Try.results56 (RV.tmp rfl) (fun w' hs => RetV.no (fun h => g3 h.2.2.1.1) hs.below)
    repeat' (first | refine rn ?_ | (apply TL_box; exact rfl; exact rfl; exact rfl; intro _ _) | (apply TL_alloc; exact rfl; intro _ _) | (apply TL_buildSlice; exact rfl; exact rfl; exact rfl; exact rfl; exact rfl; intro _ _))
    refine TL_gsplit_dec rfl rfl (fun g4 => ?_) (fun g4 => ?_)
    rotate_left
    · repeat' (first | refine rn ?_ | (apply TL_box; exact rfl; exact rfl; exact rfl; intro _ _) | (apply TL_alloc; exact rfl; intro _ _) | (apply TL_buildSlice; exact rfl; exact rfl; exact rfl; exact rfl; exact rfl; intro _ _))
      exact TQ_ret1 Try.results56 (RV.tmp rfl) (fun w' hs => RetV.no (fun h => g4 h.2.2.2.2.1) hs.below)
    repeat' (first | refine rn ?_ | (apply TL_box; exact rfl; exact rfl; exact rfl; intro _ _) | (apply TL_alloc; exact rfl; intro _ _) | (apply TL_buildSlice; exact rfl; exact rfl; exact rfl; exact rfl; exact rfl; intro _ _))
    refine TL_gsplit_dec rfl rfl (fun g5 => ?_) (fun g5 => ?_)
    rotate_left
    · repeat' (first | refine rn ?_ | (apply TL_box; exact rfl; exact rfl; exact rfl; intro _ _) | (apply TL_alloc; exact rfl; intro _ _) | (apply TL_buildSlice; exact rfl; exact rfl; exact rfl; exact rfl; exact rfl; intro _ _))
      exact TQ_ret1 Try.results56 (RV.tmp rfl) (fun w' hs => RetV.no (fun h => g5 h.2.2.2.1.2) hs.below)
    repeat' (first | refine rn ?_ | (apply TL_box; exact rfl; exact rfl; exact rfl; intro _ _) | (apply TL_alloc; exact rfl; intro _ _) | (apply TL_buildSlice; exact rfl; exact rfl; exact rfl; exact rfl; exact rfl; intro _ _))
    refine TL_callV rfl rfl rfl (fun w _ => c48 f.keep 0 30 w) ?_
    repeat' (first | refine rn ?_ | (apply TL_box; exact rfl; exact rfl; exact rfl; intro _ _) | (apply TL_alloc; exact rfl; intro _ _) | (apply TL_buildSlice; exact rfl; exact rfl; exact rfl; exact rfl; exact rfl; intro _ _))
    refine TQ_ret1 Try.results56 (RV.tmp rfl) (fun w' hs => ⟨?_, hs.below⟩)
    have : In f.keep 0 30 ↔ OkFt f := ⟨fun h => ⟨g1, g2, ⟨g3, by omega⟩, ⟨by omega, g5⟩, g4, h, g6, g7, g8⟩, fun h => h.2.2.2.2.2.1⟩
    rw [decide_eq_decide.2 this]
end Go.Proofs.Ytccgplomnjpniaa
/- Walks: grades of dates. -/
namespace Go.Proofs.Ytccgplomnjpniaa
open Go Go.Eng Go.RowKit Go.Proofs
set_option maxHeartbeats 1000000
set_option maxRecDepth 10000
attribute [local irreducible] TL TC TQ

/-- The grade of a moisture. -/
def gradeR (f : Ft) (m : Int) : Int := if f.soft ≤ m then 0 else if f.half ≤ m then 1 else 2

theorem c76 (f : Ft) (m : Int) (w : World) : Calls Try.prog 76 #[.agg (encFt f).toArray, .int .i64 m] w (RetV w (.int .u8 (gradeR f m))) := by
  refine enter (args := [.agg (encFt f).toArray, .int .i64 m]) Try.func76 rfl Try.ntmps76 rfl (SH.refl _) ?_
  repeat' (first | refine rn ?_ | (apply TL_box; exact rfl; exact rfl; exact rfl; intro _ _) | (apply TL_alloc; exact rfl; intro _ _) | (apply TL_buildSlice; exact rfl; exact rfl; exact rfl; exact rfl; exact rfl; intro _ _))
  refine TC_cond_dec rfl (fun h1 => ?_) (fun h1 => ?_)
  · repeat' (first | refine rn ?_ | (apply TL_box; exact rfl; exact rfl; exact rfl; intro _ _) | (apply TL_alloc; exact rfl; intro _ _) | (apply TL_buildSlice; exact rfl; exact rfl; exact rfl; exact rfl; exact rfl; intro _ _))
    have e : gradeR f m = 0 := by unfold gradeR; rw [if_pos h1]
    rw [e]
    exact TQ_ret1 Try.results76 (RV.tmp rfl) (fun w' hs => ⟨rfl, hs.below⟩)
  repeat' (first | refine rn ?_ | (apply TL_box; exact rfl; exact rfl; exact rfl; intro _ _) | (apply TL_alloc; exact rfl; intro _ _) | (apply TL_buildSlice; exact rfl; exact rfl; exact rfl; exact rfl; exact rfl; intro _ _))
  refine TC_cond_dec rfl (fun h2 => ?_) (fun h2 => ?_)
  · repeat' (first | refine rn ?_ | (apply TL_box; exact rfl; exact rfl; exact rfl; intro _ _) | (apply TL_alloc; exact rfl; intro _ _) | (apply TL_buildSlice; exact rfl; exact rfl; exact rfl; exact rfl; exact rfl; intro _ _))
    have e : gradeR f m = 1 := by unfold gradeR; rw [if_neg h1, if_pos h2]
    rw [e]
    exact TQ_ret1 Try.results76 (RV.tmp rfl) (fun w' hs => ⟨rfl, hs.below⟩)
  · repeat' (first | refine rn ?_ | (apply TL_box; exact rfl; exact rfl; exact rfl; intro _ _) | (apply TL_alloc; exact rfl; intro _ _) | (apply TL_buildSlice; exact rfl; exact rfl; exact rfl; exact rfl; exact rfl; intro _ _))
    have e : gradeR f m = 2 := by unfold gradeR; rw [if_neg h1, if_neg h2]
    rw [e]
    exact TQ_ret1 Try.results76 (RV.tmp rfl) (fun w' hs => ⟨rfl, hs.below⟩)

theorem c75 (f : Ft) (m : Int) (w : World) : Calls Try.prog 75 #[.agg (encFt f).toArray, .int .i64 m] w (RetV w (.int .i64 (gradeR f (max m 0)))) := by
  refine enter (args := [.agg (encFt f).toArray, .int .i64 m]) Try.func75 rfl Try.ntmps75 rfl (SH.refl _) ?_
  repeat' (first | refine rn ?_ | (apply TL_box; exact rfl; exact rfl; exact rfl; intro _ _) | (apply TL_alloc; exact rfl; intro _ _) | (apply TL_buildSlice; exact rfl; exact rfl; exact rfl; exact rfl; exact rfl; intro _ _))
  rename_i b _
  refine TC_loop (σ := Nat) (fun k => k ≤ 2 ∧ (1 ≤ k → ¬ f.soft ≤ max m 0) ∧ (2 ≤ k → ¬ f.half ≤ max m 0)) (fun k => [(1, .int .i64 m), (11, .agg #[.int .i64 f.soft, .int .i64 f.half]), (12, .int .i64 k)]) (fun _ => []) (fun k => 2 - k) 0 ⟨by omega, fun h => by omega, fun h => by omega⟩ sb (fun w h => h.sub (List.nil_sublist _)) (fun k hk => ?_)
  have hk4 : k = 0 ∨ k = 1 ∨ k = 2 := by omega
  rcases hk4 with rfl | rfl | rfl
  · repeat' (first | refine rn ?_ | (apply TL_box; exact rfl; exact rfl; exact rfl; intro _ _) | (apply TL_alloc; exact rfl; intro _ _) | (apply TL_buildSlice; exact rfl; exact rfl; exact rfl; exact rfl; exact rfl; intro _ _))
    refine TL_indexA 0 rfl rfl rfl rfl (by omega) rfl ?_
    repeat' (first | refine rn ?_ | (apply TL_box; exact rfl; exact rfl; exact rfl; intro _ _) | (apply TL_alloc; exact rfl; intro _ _) | (apply TL_buildSlice; exact rfl; exact rfl; exact rfl; exact rfl; exact rfl; intro _ _))
    refine TC_cond_dec rfl (fun h2 => ?_) (fun h2 => ?_)
    · repeat' (first | refine rn ?_ | (apply TL_box; exact rfl; exact rfl; exact rfl; intro _ _) | (apply TL_alloc; exact rfl; intro _ _) | (apply TL_buildSlice; exact rfl; exact rfl; exact rfl; exact rfl; exact rfl; intro _ _))
      have e : gradeR f (max m 0) = 0 := by unfold gradeR; rw [if_pos h2]
      rw [e]
      exact TQ_ret1 Try.results75 (RV.tmp rfl) (fun w' hs => ⟨rfl, hs.below⟩)
    · repeat' (first | refine rn ?_ | (apply TL_box; exact rfl; exact rfl; exact rfl; intro _ _) | (apply TL_alloc; exact rfl; intro _ _) | (apply TL_buildSlice; exact rfl; exact rfl; exact rfl; exact rfl; exact rfl; intro _ _))
      exact TQ_round 1 ⟨by omega, fun _ => h2, fun h => by omega⟩ (by omega) sb (fun w h => h)
  · have h0 := hk.2.1 (by omega)
    repeat' (first | refine rn ?_ | (apply TL_box; exact rfl; exact rfl; exact rfl; intro _ _) | (apply TL_alloc; exact rfl; intro _ _) | (apply TL_buildSlice; exact rfl; exact rfl; exact rfl; exact rfl; exact rfl; intro _ _))
    refine TL_indexA 1 rfl rfl rfl rfl (by omega) rfl ?_
    repeat' (first | refine rn ?_ | (apply TL_box; exact rfl; exact rfl; exact rfl; intro _ _) | (apply TL_alloc; exact rfl; intro _ _) | (apply TL_buildSlice; exact rfl; exact rfl; exact rfl; exact rfl; exact rfl; intro _ _))
    refine TC_cond_dec rfl (fun h2 => ?_) (fun h2 => ?_)
    · repeat' (first | refine rn ?_ | (apply TL_box; exact rfl; exact rfl; exact rfl; intro _ _) | (apply TL_alloc; exact rfl; intro _ _) | (apply TL_buildSlice; exact rfl; exact rfl; exact rfl; exact rfl; exact rfl; intro _ _))
      have e : gradeR f (max m 0) = 1 := by unfold gradeR; rw [if_neg h0, if_pos h2]
      rw [e]
      exact TQ_ret1 Try.results75 (RV.tmp rfl) (fun w' hs => ⟨rfl, hs.below⟩)
    · repeat' (first | refine rn ?_ | (apply TL_box; exact rfl; exact rfl; exact rfl; intro _ _) | (apply TL_alloc; exact rfl; intro _ _) | (apply TL_buildSlice; exact rfl; exact rfl; exact rfl; exact rfl; exact rfl; intro _ _))
      exact TQ_round 2 ⟨by omega, fun _ => h0, fun _ => h2⟩ (by omega) sb (fun w h => h)
  · repeat' (first | refine rn ?_ | (apply TL_box; exact rfl; exact rfl; exact rfl; intro _ _) | (apply TL_alloc; exact rfl; intro _ _) | (apply TL_buildSlice; exact rfl; exact rfl; exact rfl; exact rfl; exact rfl; intro _ _))
    have e : gradeR f (max m 0) = 2 := by unfold gradeR; rw [if_neg (hk.2.1 (by omega)), if_neg (hk.2.2 (by omega))]
    rw [e]
    exact TQ_ret1 Try.results75 (RV.tmp rfl) (fun w' hs => ⟨rfl, hs.below⟩)
end Go.Proofs.Ytccgplomnjpniaa
/- Walks: the grades after some days. -/
namespace Go.Proofs.Ytccgplomnjpniaa
open Go Go.Eng Go.RowKit Go.Proofs
set_option maxHeartbeats 1000000
set_option maxRecDepth 10000
attribute [local irreducible] TL TC TQ

/-- The least and the greatest grade after some days. -/
def gLo (f : Ft) (d : Int) : Int := gradeR f (max (f.wet.2 - d * f.dry.1) 0)
def gHi (f : Ft) (d : Int) : Int := gradeR f (max (f.wet.1 - d * f.dry.2) 0)
/-- The products of days are small. -/
structure DayB (f : Ft) (d : Int) : Prop where
  a : 0 ≤ d * f.dry.1 ∧ d * f.dry.1 ≤ 1000000
  b : 0 ≤ d * f.dry.2 ∧ d * f.dry.2 ≤ 1000000
  c : 0 ≤ f.wet.1 ∧ f.wet.1 ≤ 1000
  e : 0 ≤ f.wet.2 ∧ f.wet.2 ≤ 1000
theorem c55 (f : Ft) (d : Int) (hb : DayB f d) (w : World) : Calls Try.prog 55 #[.agg (encFt f).toArray, .int .i64 d] w (RetV w (.agg #[.int .i64 (gLo f d), .int .i64 (gHi f d)])) := by
  obtain ⟨b1, b2, b3, b4⟩ := hb
  refine enter (args := [.agg (encFt f).toArray, .int .i64 d]) Try.func55 rfl Try.ntmps55 rfl (SH.refl _) ?_
  repeat' (first | refine rn ?_ | (apply TL_box; exact rfl; exact rfl; exact rfl; intro _ _) | (apply TL_alloc; exact rfl; intro _ _) | (apply TL_buildSlice; exact rfl; exact rfl; exact rfl; exact rfl; exact rfl; intro _ _))
  apply TC_draw 23; kernel_rfl; exact Try.mixed
  · iterate 10 (refine' pv ?_; rotate_left)
    (refine' PG.val rfl rfl (by intro _X; refine TL_callV rfl rfl rfl (fun w _ => c75 f (f.wet.2 - d * f.dry.1) w) ?_; exact qe) ?_; rotate_left)
    iterate 10 (refine' pv ?_; rotate_left)
    (refine' PG.val rfl rfl (by intro _X; refine TL_callV rfl rfl rfl (fun w _ => c75 f (f.wet.1 - d * f.dry.2) w) ?_; exact qe) ?_; rotate_left)
    (refine' pv ?_; rotate_left)
    exact PG.nil
  change TL _ _ _ _ _ _ _ _ _ _ _
  repeat' (first | refine rn ?_ | (apply TL_box; exact rfl; exact rfl; exact rfl; intro _ _) | (apply TL_alloc; exact rfl; intro _ _) | (apply TL_buildSlice; exact rfl; exact rfl; exact rfl; exact rfl; exact rfl; intro _ _))
  exact TQ_ret1 Try.results55 (RV.celln rfl mm (by rfl)) (fun w' hs => ⟨rfl, hs.below⟩)
theorem c57 (f : Ft) (d : Int) (hb : DayB f d) (w : World) : Calls Try.prog 57 #[.agg (encFt f).toArray, .int .i64 d] w (RetV w (.tuple #[.int .u8 (gLo f d), .int .u8 (gHi f d)])) := by
  obtain ⟨b1, b2, b3, b4⟩ := hb
  have e1 : gradeR f (max 0 (f.wet.2 - d * f.dry.1)) = gLo f d := by unfold gLo; rw [Int.max_comm]
  have e2 : gradeR f (max 0 (f.wet.1 - d * f.dry.2)) = gHi f d := by unfold gHi; rw [Int.max_comm]
  have c1 := fun w => c76 f (max 0 (f.wet.2 - d * f.dry.1)) w
  have c2 := fun w => c76 f (max 0 (f.wet.1 - d * f.dry.2)) w
  rw [e1] at c1
  rw [e2] at c2
  refine enter (args := [.agg (encFt f).toArray, .int .i64 d]) Try.func57 rfl Try.ntmps57 rfl (SH.refl _) ?_
  repeat' (first | refine rn ?_ | (apply TL_box; exact rfl; exact rfl; exact rfl; intro _ _) | (apply TL_alloc; exact rfl; intro _ _) | (apply TL_buildSlice; exact rfl; exact rfl; exact rfl; exact rfl; exact rfl; intro _ _))
  apply TC_draw 24; kernel_rfl; exact Try.mixed
  · iterate 11 (refine' pv ?_; rotate_left)
    (refine' PG.val rfl rfl (by intro _X; refine TL_callV rfl rfl rfl (fun w _ => c1 w) ?_; exact qe) ?_; rotate_left)
    iterate 11 (refine' pv ?_; rotate_left)
    (refine' PG.val rfl rfl (by intro _X; refine TL_callV rfl rfl rfl (fun w _ => c2 w) ?_; exact qe) ?_; rotate_left)
    exact PG.nil
  change TL _ _ _ _ _ _ _ _ _ _ _
  repeat' (first | refine rn ?_ | (apply TL_box; exact rfl; exact rfl; exact rfl; intro _ _) | (apply TL_alloc; exact rfl; intro _ _) | (apply TL_buildSlice; exact rfl; exact rfl; exact rfl; exact rfl; exact rfl; intro _ _))
  exact TQ_ret2 Try.results57 (RV.tmp rfl) (RV.tmp rfl) (fun w' hs => ⟨rfl, hs.below⟩)
end Go.Proofs.Ytccgplomnjpniaa
