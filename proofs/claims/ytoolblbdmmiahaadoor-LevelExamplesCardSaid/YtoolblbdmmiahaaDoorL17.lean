/- Walks: Slope, of the program and of the reference. -/
import Derived.Test.YtoolblbdmmiahaaDoorL16
namespace Go.Proofs.YtoolblbdmmiahaaDoor
open Go Go.Eng Go.RowKit Go.Proofs
set_option maxHeartbeats 4000000
set_option maxRecDepth 10000
attribute [local irreducible] TL TC TQ

theorem slope_inv {S : Sv} (h : ¬ OkSv S) (k : Int) : slopeF S k = ((0, 0), 10) := if_pos h
theorem slope_bad {S : Sv} (h : OkSv S) {k : Int} (h2 : ¬ In k 0 ((S.thr.length : Int) - 1)) : slopeF S k = ((0, 0), 12) := by unfold slopeF; rw [if_neg (not_not_intro h), if_pos h2]
theorem slope_no {S : Sv} (h : OkSv S) {k : Int} (h2 : In k 0 ((S.thr.length : Int) - 1)) (h3 : okS S = false) : slopeF S k = ((0, 0), 11) := by unfold slopeF; rw [if_neg (not_not_intro h), if_neg (not_not_intro h2), if_neg (by rw [h3]; simp)]
theorem slope_ok {S : Sv} (h : OkSv S) {k : Int} (h2 : In k 0 ((S.thr.length : Int) - 1)) (h3 : okS S = true) {x : Th} (hx : S.thr[k.toNat]? = some x) : slopeF S k = (slopeR (fallR (tbl S) x.fr.toNat x.to.toNat) x.long, 0) := by unfold slopeF; rw [if_neg (not_not_intro h), if_neg (not_not_intro h2), if_pos h3, hx]
theorem c31 (S : Sv) (p : Pl) (k : Int) (h1 : S.shots.length ≤ 1000000) (h2 : S.marks.length ≤ 1000000) (h3 : S.thr.length ≤ 1000000) (w : World) (ha : SvAt w S p) :
    Calls Tryd.prog 13 #[.agg (encSv S p).toArray, .int .i64 k] w (RetV w (.tuple #[.agg (encSp (slopeF S k).1).toArray, .int .i64 (slopeF S k).2])) := by
  refine enter (args := [.agg (encSv S p).toArray, .int .i64 k]) Tryd.func13 rfl Tryd.ntmps13 rfl (SH.refl _) ?_
  repeat' (first | refine rn ?_ | (apply TL_box; exact rfl; exact rfl; exact rfl; intro _ _) | (apply TL_alloc; exact rfl; intro _ _) | (apply TL_buildSlice; exact rfl; exact rfl; exact rfl; exact rfl; exact rfl; intro _ _))
  rename_i b2 _ b4 _
  by_cases hS : OkSv S
  rotate_left
  · refine TL_callV rfl rfl rfl (fun w hh => c44_no S p h1 h2 h3 w (ha.mono hh) (fun h => hS h.1)) ?_
    rw [slope_inv hS, if_pos hS]
    repeat' (first | refine rn ?_ | (apply TL_box; exact rfl; exact rfl; exact rfl; intro _ _) | (apply TL_alloc; exact rfl; intro _ _) | (apply TL_buildSlice; exact rfl; exact rfl; exact rfl; exact rfl; exact rfl; intro _ _))
    exact TQ_ret2 Tryd.results13 (RV.celln rfl mm (by rfl)) (RV.tmp rfl) (fun w' hs => ⟨rfl, hs.below⟩)
  have hp := hS.1
  simp only [In] at hp
  have ein : (∀ x ∈ [k], In x 0 ((S.thr.length : Int) - 1)) ↔ In k 0 ((S.thr.length : Int) - 1) := by simp
  cases hok : okS S with
  | false =>
    refine TL_callV rfl rfl rfl (fun w hh => c44_no S p h1 h2 h3 w (ha.mono hh) (fun h => by rw [hok] at h; cases h.2)) ?_
    rw [if_neg (not_not_intro hS)]
    repeat' (first | refine rn ?_ | (apply TL_box; exact rfl; exact rfl; exact rfl; intro _ _) | (apply TL_alloc; exact rfl; intro _ _) | (apply TL_buildSlice; exact rfl; exact rfl; exact rfl; exact rfl; exact rfl; intro _ _))
    refine TL_callV rfl rfl rfl (fun w h => c48 0 ((S.thr.length : Int) - 1) [k] _ 1 (by simp) w (Sl.of_blk h mm (fun y _ => rfl) ⟨[], rfl⟩)) ?_
    by_cases hin : In k 0 ((S.thr.length : Int) - 1)
    · rw [slope_no hS hin hok, decide_eq_true (ein.2 hin)]
      repeat' (first | refine rn ?_ | (apply TL_box; exact rfl; exact rfl; exact rfl; intro _ _) | (apply TL_alloc; exact rfl; intro _ _) | (apply TL_buildSlice; exact rfl; exact rfl; exact rfl; exact rfl; exact rfl; intro _ _))
      exact TQ_ret2 Tryd.results13 (RV.celln rfl mm (by rfl)) (RV.tmp rfl) (fun w' hs => ⟨rfl, hs.below⟩)
    · rw [slope_bad hS hin, decide_eq_false (fun h => hin (ein.1 h))]
      repeat' (first | refine rn ?_ | (apply TL_box; exact rfl; exact rfl; exact rfl; intro _ _) | (apply TL_alloc; exact rfl; intro _ _) | (apply TL_buildSlice; exact rfl; exact rfl; exact rfl; exact rfl; exact rfl; intro _ _))
      exact TQ_ret2 Tryd.results13 (RV.celln rfl mm (by rfl)) (RV.tmp rfl) (fun w' hs => ⟨rfl, hs.below⟩)
  | true =>
    refine TL_callN rfl rfl rfl (fun w h => c44_ok S p hS hok w (ha.mono h)) ?_
    rintro bt -
    repeat' (first | refine rn ?_ | (apply TL_box; exact rfl; exact rfl; exact rfl; intro _ _) | (apply TL_alloc; exact rfl; intro _ _) | (apply TL_buildSlice; exact rfl; exact rfl; exact rfl; exact rfl; exact rfl; intro _ _))
    refine TL_callV rfl rfl rfl (fun w h => c48 0 ((S.thr.length : Int) - 1) [k] _ 1 (by simp) w (Sl.of_blk h mm (fun y _ => rfl) ⟨[], rfl⟩)) ?_
    by_cases hin : In k 0 ((S.thr.length : Int) - 1)
    rotate_left
    · rw [slope_bad hS hin, decide_eq_false (fun h => hin (ein.1 h))]
      repeat' (first | refine rn ?_ | (apply TL_box; exact rfl; exact rfl; exact rfl; intro _ _) | (apply TL_alloc; exact rfl; intro _ _) | (apply TL_buildSlice; exact rfl; exact rfl; exact rfl; exact rfl; exact rfl; intro _ _))
      exact TQ_ret2 Tryd.results13 (RV.celln rfl mm (by rfl)) (RV.tmp rfl) (fun w' hs => ⟨rfl, hs.below⟩)
    rw [decide_eq_true (ein.2 hin)]
    have hin' := hin
    simp only [In] at hin'
    obtain ⟨x, hx⟩ : ∃ x, S.thr[k.toNat]? = some x := ⟨_, List.getElem?_eq_getElem (by omega)⟩
    rw [slope_ok hS hin hok hx]
    have hne : S.thr ≠ [] := by intro h; rw [h] at hx; cases hx
    obtain ⟨⟨⟨x1, x2⟩, ⟨x3, x4⟩, _⟩, x5, x6, x7⟩ := hS.2.2.2.2.2.2 x (List.mem_of_getElem? hx)
    have hT1 := tbl_B hS hok (i := x.fr.toNat) (k := x.to.toNat) (by omega) (by omega)
    have hT2 := tbl_B hS hok (i := x.to.toNat) (k := x.fr.toNat) (by omega) (by omega)
    have hO := fall_ord hS hok (i := x.fr.toNat) (k := x.to.toNat) (by omega) (by omega)
    have hF1 : -20000000 ≤ (fallR (tbl S) x.fr.toNat x.to.toNat).1 ∧ (fallR (tbl S) x.fr.toNat x.to.toNat).1 ≤ 20000000 := by simp only [fallR]; omega
    have hF2 : -20000000 ≤ (fallR (tbl S) x.fr.toNat x.to.toNat).2 ∧ (fallR (tbl S) x.fr.toNat x.to.toNat).2 ≤ 20000000 := by simp only [fallR]; omega
    repeat' (first | refine rn ?_ | (apply TL_box; exact rfl; exact rfl; exact rfl; intro _ _) | (apply TL_alloc; exact rfl; intro _ _) | (apply TL_buildSlice; exact rfl; exact rfl; exact rfl; exact rfl; exact rfl; intro _ _))
    refine TL_index k.toNat rfl rfl rfl (fun w h => h.sl ha.s3) (by omega) (by omega) (Nat.le_refl _) ?_
    refine TL_load_eln (u := x) rfl rfl (fun w h => h.sl ha.s3) hx rfl ?_
    repeat' (first | refine rn ?_ | (apply TL_box; exact rfl; exact rfl; exact rfl; intro _ _) | (apply TL_alloc; exact rfl; intro _ _) | (apply TL_buildSlice; exact rfl; exact rfl; exact rfl; exact rfl; exact rfl; intro _ _))
    refine TL_call rfl rfl rfl _ _ _ (fun w h => c45 (tbl S) x.fr x.to (by omega) (by omega) (by omega) bt _ mm w h) (fun _ _ => ?_)
    repeat' (first | refine rn ?_ | (apply TL_box; exact rfl; exact rfl; exact rfl; intro _ _) | (apply TL_alloc; exact rfl; intro _ _) | (apply TL_buildSlice; exact rfl; exact rfl; exact rfl; exact rfl; exact rfl; intro _ _))
    rename_i b8 _ b9 _ b51 _
    refine TL_callV rfl rfl rfl (fun w h => c59 x.long [1000 * (fallR (tbl S) x.fr.toNat x.to.toNat).1, 1000 * (fallR (tbl S) x.fr.toNat x.to.toNat).2] _ 2 (by simp) (by simp) (by omega) (fun y hy => by simp at hy; omega) w (Sl.of_blk h mm (fun _ _ => rfl) ⟨[], rfl⟩)) ?_
    rw [ends_slope hO (by omega) x6]
    repeat' (first | refine rn ?_ | (apply TL_box; exact rfl; exact rfl; exact rfl; intro _ _) | (apply TL_alloc; exact rfl; intro _ _) | (apply TL_buildSlice; exact rfl; exact rfl; exact rfl; exact rfl; exact rfl; intro _ _))
    exact TQ_ret2 Tryd.results13 (RV.celln rfl mm (by rfl)) (RV.tmp rfl) (fun w' hs => ⟨rfl, hs.below⟩)
end Go.Proofs.YtoolblbdmmiahaaDoor
