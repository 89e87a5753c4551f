/- Walks: Slope, of the program and of the reference. -/
import Derived.Test.YtoolblbdmmiahaaL16
namespace Go.Proofs.Ytoolblbdmmiahaa
open Go Go.Eng Go.RowKit Go.Proofs
set_option maxHeartbeats 4000000
set_option maxRecDepth 10000
attribute [local irreducible] TL TC TQ

theorem slope_inv {S : Sv} (h : ¬ OkSv S) (k : Int) : slopeF S k = ((0, 0), 10) := if_pos h
theorem slope_bad {S : Sv} (h : OkSv S) {k : Int} (h2 : ¬ In k 0 ((S.thr.length : Int) - 1)) : slopeF S k = ((0, 0), 12) := by unfold slopeF; rw [if_neg (not_not_intro h), if_pos h2]
theorem slope_no {S : Sv} (h : OkSv S) {k : Int} (h2 : In k 0 ((S.thr.length : Int) - 1)) (h3 : okS S = false) : slopeF S k = ((0, 0), 11) := by unfold slopeF; rw [if_neg (not_not_intro h), if_neg (not_not_intro h2), if_neg (by rw [h3]; simp)]
theorem slope_ok {S : Sv} (h : OkSv S) {k : Int} (h2 : In k 0 ((S.thr.length : Int) - 1)) (h3 : okS S = true) {x : Th} (hx : S.thr[k.toNat]? = some x) : slopeF S k = (slopeR (fallR (tbl S) x.fr.toNat x.to.toNat) x.long, 0) := by unfold slopeF; rw [if_neg (not_not_intro h), if_neg (not_not_intro h2), if_pos h3, hx]
theorem c31 (S : Sv) (p : Pl) (k : Int) (h1 : S.shots.length ≤ 1000000) (h2 : S.marks.length ≤ 1000000) (h3 : S.thr.length ≤ 1000000) (w : World) (ha : SvAt w S p) :
    Calls Try.prog 31 #[.agg (encSv S p).toArray, .int .i64 k] w (RetV w (.tuple #[.agg (encSp (slopeF S k).1).toArray, .int .i64 (slopeF S k).2])) := by
  refine enter (args := [.agg (encSv S p).toArray, .int .i64 k]) Try.func31 rfl Try.ntmps31 rfl (SH.refl _) ?_
  repeat' (first | refine rn ?_ | (apply TL_box; exact rfl; exact rfl; exact rfl; intro _ _) | (apply TL_alloc; exact rfl; intro _ _) | (apply TL_buildSlice; exact rfl; exact rfl; exact rfl; exact rfl; exact rfl; intro _ _))
  rename_i b2 _ b4 _
  by_cases hS : OkSv S
  rotate_left
  · refine TL_callV rfl rfl rfl (fun w hh => c44_no S p h1 h2 h3 w (ha.mono hh) (fun h => hS h.1)) ?_
    rw [slope_inv hS, if_pos hS]
    repeat' (first | refine rn ?_ | (apply TL_box; exact rfl; exact rfl; exact rfl; intro _ _) | (apply TL_alloc; exact rfl; intro _ _) | (apply TL_buildSlice; exact rfl; exact rfl; exact rfl; exact rfl; exact rfl; intro _ _))
    exact TQ_ret2 Try.results31 (RV.celln rfl mm (by rfl)) (RV.tmp rfl) (fun w' hs => ⟨rfl, hs.below⟩)
  have hp := hS.1
  simp only [In] at hp
  have ein : (∀ x ∈ [k], In x 0 ((S.thr.length : Int) - 1)) ↔ In k 0 ((S.thr.length : Int) - 1) := by simp
  cases hok : okS S with
  | false =>
    refine TL_callV rfl rfl rfl (fun w hh => c44_no S p h1 h2 h3 w (ha.mono hh) (fun h => by rw [hok] at h; cases h.2)) ?_
    rw [if_neg (not_not_intro hS)]
    repeat' (first | refine rn ?_ | (apply TL_box; exact rfl; exact rfl; exact rfl; intro _ _) | (apply TL_alloc; exact rfl; intro _ _) | (apply TL_buildSlice; exact rfl; exact rfl; exact rfl; exact rfl; exact rfl; intro _ _))
    refine TL_callV rfl rfl rfl (fun w h => c48 0 ((S.thr.length : Int) - 1) [k] _ 1 (by simp) w (Sl.of_blk h mm (fun y _ => rfl) ⟨[], rfl⟩)) ?_
    by_cases hin : In k 0 ((S.thr.length : Int) - 1)
    · rw [slope_no hS hin hok, decide_eq_true (ein.2 hin)]
      repeat' (first | refine rn ?_ | (apply TL_box; exact rfl; exact rfl; exact rfl; intro _ _) | (apply TL_alloc; exact rfl; intro _ _) | (apply TL_buildSlice; exact rfl; exact rfl; exact rfl; exact rfl; exact rfl; intro _ _))
      exact TQ_ret2 Try.results31 (RV.celln rfl mm (by rfl)) (RV.tmp rfl) (fun w' hs => ⟨rfl, hs.below⟩)
    · rw [slope_bad hS hin, decide_eq_false (fun h => hin (ein.1 h))]
      repeat' (first | refine rn ?_ | (apply TL_box; exact rfl; exact rfl; exact rfl; intro _ _) | (apply TL_alloc; exact rfl; intro _ _) | (apply TL_buildSlice; exact rfl; exact rfl; exact rfl; exact rfl; exact rfl; intro _ _))
      exact TQ_ret2 Try.results31 (RV.celln rfl mm (by rfl)) (RV.tmp rfl) (fun w' hs => ⟨rfl, hs.below⟩)
  | true =>
    refine TL_callN rfl rfl rfl (fun w h => c44_ok S p hS hok w (ha.mono h)) ?_
    rintro bt -
    repeat' (first | refine rn ?_ | (apply TL_box; exact rfl; exact rfl; exact rfl; intro _ _) | (apply TL_alloc; exact rfl; intro _ _) | (apply TL_buildSlice; exact rfl; exact rfl; exact rfl; exact rfl; exact rfl; intro _ _))
    refine TL_callV rfl rfl rfl (fun w h => c48 0 ((S.thr.length : Int) - 1) [k] _ 1 (by simp) w (Sl.of_blk h mm (fun y _ => rfl) ⟨[], rfl⟩)) ?_
    by_cases hin : In k 0 ((S.thr.length : Int) - 1)
    rotate_left
    · rw [slope_bad hS hin, decide_eq_false (fun h => hin (ein.1 h))]
      repeat' (first | refine rn ?_ | (apply TL_box; exact rfl; exact rfl; exact rfl; intro _ _) | (apply TL_alloc; exact rfl; intro _ _) | (apply TL_buildSlice; exact rfl; exact rfl; exact rfl; exact rfl; exact rfl; intro _ _))
      exact TQ_ret2 Try.results31 (RV.celln rfl mm (by rfl)) (RV.tmp rfl) (fun w' hs => ⟨rfl, hs.below⟩)
    rw [decide_eq_true (ein.2 hin)]
    have hin' := hin
    simp only [In] at hin'
    obtain ⟨x, hx⟩ : ∃ x, S.thr[k.toNat]? = some x := ⟨_, List.getElem?_eq_getElem (by omega)⟩
    rw [slope_ok hS hin hok hx]
    have hne : S.thr ≠ [] := by intro h; rw [h] at hx; cases hx
    obtain ⟨⟨⟨x1, x2⟩, ⟨x3, x4⟩, _⟩, x5, x6, x7⟩ := hS.2.2.2.2.2.2 x (List.mem_of_getElem? hx)
    have hT1 := tbl_B hS hok (i := x.fr.toNat) (k := x.to.toNat) (by omega) (by omega)
    have hT2 := tbl_B hS hok (i := x.to.toNat) (k := x.fr.toNat) (by omega) (by omega)
    have hO := fall_ord hS hok (i := x.fr.toNat) (k := x.to.toNat) (by omega) (by omega)
    have hF1 : -20000000 ≤ (fallR (tbl S) x.fr.toNat x.to.toNat).1 ∧ (fallR (tbl S) x.fr.toNat x.to.toNat).1 ≤ 20000000 := by simp only [fallR]; omega
    have hF2 : -20000000 ≤ (fallR (tbl S) x.fr.toNat x.to.toNat).2 ∧ (fallR (tbl S) x.fr.toNat x.to.toNat).2 ≤ 20000000 := by simp only [fallR]; omega
    repeat' (first | refine rn ?_ | (apply TL_box; exact rfl; exact rfl; exact rfl; intro _ _) | (apply TL_alloc; exact rfl; intro _ _) | (apply TL_buildSlice; exact rfl; exact rfl; exact rfl; exact rfl; exact rfl; intro _ _))
    refine TL_index k.toNat rfl rfl rfl (fun w h => h.sl ha.s3) (by omega) (by omega) (Nat.le_refl _) ?_
    refine TL_load_eln (u := x) rfl rfl (fun w h => h.sl ha.s3) hx rfl ?_
    repeat' (first | refine rn ?_ | (apply TL_box; exact rfl; exact rfl; exact rfl; intro _ _) | (apply TL_alloc; exact rfl; intro _ _) | (apply TL_buildSlice; exact rfl; exact rfl; exact rfl; exact rfl; exact rfl; intro _ _))
    refine TL_call rfl rfl rfl _ _ _ (fun w h => c45 (tbl S) x.fr x.to (by omega) (by omega) (by omega) bt _ mm w h) (fun _ _ => ?_)
    repeat' (first | refine rn ?_ | (apply TL_box; exact rfl; exact rfl; exact rfl; intro _ _) | (apply TL_alloc; exact rfl; intro _ _) | (apply TL_buildSlice; exact rfl; exact rfl; exact rfl; exact rfl; exact rfl; intro _ _))
    rename_i b8 _ b9 _ b51 _
    refine TL_callV rfl rfl rfl (fun w h => c59 x.long [1000 * (fallR (tbl S) x.fr.toNat x.to.toNat).1, 1000 * (fallR (tbl S) x.fr.toNat x.to.toNat).2] _ 2 (by simp) (by simp) (by omega) (fun y hy => by simp at hy; omega) w (Sl.of_blk h mm (fun _ _ => rfl) ⟨[], rfl⟩)) ?_
    rw [ends_slope hO (by omega) x6]
    repeat' (first | refine rn ?_ | (apply TL_box; exact rfl; exact rfl; exact rfl; intro _ _) | (apply TL_alloc; exact rfl; intro _ _) | (apply TL_buildSlice; exact rfl; exact rfl; exact rfl; exact rfl; exact rfl; intro _ _))
    exact TQ_ret2 Try.results31 (RV.celln rfl mm (by rfl)) (RV.tmp rfl) (fun w' hs => ⟨rfl, hs.below⟩)
theorem c32 (S : Sv) (p : Pl) (k : Int) (h1 : S.shots.length ≤ 1000000) (h2 : S.marks.length ≤ 1000000) (h3 : S.thr.length ≤ 1000000) (w : World) (ha : SvAt w S p) :
    Calls Try.prog 32 #[.agg (encSv S p).toArray, .int .i64 k] w (RetV w (.tuple #[.agg (encSp (slopeF S k).1).toArray, .int .i64 (slopeF S k).2])) := by
  refine enter (args := [.agg (encSv S p).toArray, .int .i64 k]) Try.func32 rfl Try.ntmps32 rfl (SH.refl _) ?_
  repeat' (first | refine rn ?_ | (apply TL_box; exact rfl; exact rfl; exact rfl; intro _ _) | (apply TL_alloc; exact rfl; intro _ _) | (apply TL_buildSlice; exact rfl; exact rfl; exact rfl; exact rfl; exact rfl; intro _ _))
  rename_i b2 _ b4 _
  refine TL_callV rfl rfl rfl (fun w h => c21 S p h1 h2 h3 w (ha.mono h)) ?_
  by_cases hS : OkSv S
  rotate_left
  · rw [slope_inv hS, checkS_no hS]
    repeat' (first | refine rn ?_ | (apply TL_box; exact rfl; exact rfl; exact rfl; intro _ _) | (apply TL_alloc; exact rfl; intro _ _) | (apply TL_buildSlice; exact rfl; exact rfl; exact rfl; exact rfl; exact rfl; intro _ _))
    exact TQ_ret2 Try.results32 (RV.celln rfl mm (by rfl)) (RV.tmp rfl) (fun w' hs => ⟨rfl, hs.below⟩)
  rw [checkS_ok hS]
  have hp := hS.1
  simp only [In] at hp
  repeat' (first | refine rn ?_ | (apply TL_box; exact rfl; exact rfl; exact rfl; intro _ _) | (apply TL_alloc; exact rfl; intro _ _) | (apply TL_buildSlice; exact rfl; exact rfl; exact rfl; exact rfl; exact rfl; intro _ _))
  refine TL_callV rfl rfl rfl (fun w _ => c49 k 0 ((S.thr.length : Int) - 1) w) ?_
  by_cases hin : In k 0 ((S.thr.length : Int) - 1)
  rotate_left
  · rw [slope_bad hS hin, decide_eq_false hin]
    repeat' (first | refine rn ?_ | (apply TL_box; exact rfl; exact rfl; exact rfl; intro _ _) | (apply TL_alloc; exact rfl; intro _ _) | (apply TL_buildSlice; exact rfl; exact rfl; exact rfl; exact rfl; exact rfl; intro _ _))
    exact TQ_ret2 Try.results32 (RV.celln rfl mm (by rfl)) (RV.tmp rfl) (fun w' hs => ⟨rfl, hs.below⟩)
  rw [decide_eq_true hin]
  repeat' (first | refine rn ?_ | (apply TL_box; exact rfl; exact rfl; exact rfl; intro _ _) | (apply TL_alloc; exact rfl; intro _ _) | (apply TL_buildSlice; exact rfl; exact rfl; exact rfl; exact rfl; exact rfl; intro _ _))
  cases hok : okS S with
  | false =>
    rw [slope_no hS hin hok]
    refine TC_join (σ := Unit) (fun _ => True) (fun _ => [(1, .int .i64 k), (2, .pointer (some ⟨b2, 0, none⟩)), (4, .pointer (some ⟨b4, 0, none⟩)), (6, .slice none 0 0), (7, .bool false)]) (fun _ => [(b4, .cells [.int .i64 0, .int .i64 0] 36), (b2, .cells (encSv S p) 26)]) ?_ (fun _ _ => ?_)
    · refine TC_any Try.mixed ?_
      refine TA_stepL [0, 1] (by kernel_rfl) rfl ⟨?_, ?_, trivial⟩
      · change TL _ _ _ _ _ _ _ _ _ _ _
        refine r1 ?_; apply TL_nil; apply TQ_any
        refine TA_stepL [1] (by kernel_rfl) rfl ⟨?_, trivial⟩
        change TL _ _ _ _ _ _ _ _ _ _ _
        refine r1 ?_; apply TL_nil; apply TQ_any
        refine TA_stepL [2] (by kernel_rfl) rfl ⟨?_, trivial⟩
        change TL _ _ _ _ _ _ _ _ _ _ _
        (refine TL_callN rfl rfl rfl (fun w h => c47 S p (by omega) (by omega) w) ?_; rintro bc -); apply TL_nil; apply TQ_any
        refine TA_stepL [3] (by kernel_rfl) rfl ⟨?_, trivial⟩
        change TL _ _ _ _ _ _ _ _ _ _ _
        refine TL_callV rfl rfl rfl (fun w h => c46_no S p hS none_ _ _ 0 (by omega) hok w (ha.mono h) (Sl.of_blk h mm (fun _ _ => rfl) ⟨[], encC_flat _ _⟩)) ?_; apply TL_nil; apply TQ_any
        refine TA_stepL [4] (by kernel_rfl) rfl ⟨?_, trivial⟩
        change TL _ _ _ _ _ _ _ _ _ _ _
        refine r1 ?_; apply TL_nil; apply TQ_any
        refine TA_stepL [5, 6] (by kernel_rfl) rfl ⟨?_, ?_, trivial⟩
        · change TL _ _ _ _ _ _ _ _ _ _ _
          refine r1 ?_; apply TL_nil; apply TQ_any
          refine TA_stepL [6, 7] (by kernel_rfl) rfl ⟨?_, ?_, trivial⟩
          · change TL _ _ _ _ _ _ _ _ _ _ _
            refine r1 ?_; apply TL_nil; apply TQ_any
            refine TA_stepL [7] (by kernel_rfl) rfl ⟨?_, trivial⟩
            change TL _ _ _ _ _ _ _ _ _ _ _
            refine r1 ?_; apply TL_nil; apply TQ_any
            refine TA_stepL [8] (by kernel_rfl) rfl ⟨?_, trivial⟩
            change TL _ _ _ _ _ _ _ _ _ _ _
            refine r1 ?_; apply TL_nil; apply TQ_any
            refine TA_done (by kernel_rfl) ?_
            exact TQ_mid () trivial sb (fun w h => h.sub (List.Sublist.cons _ (List.Sublist.refl _)))
          · change TL _ _ _ _ _ _ _ _ _ _ _
            refine r1 ?_; apply TL_nil; apply TQ_any
            refine TA_stepL [6] (by kernel_rfl) rfl ⟨?_, trivial⟩
            change TL _ _ _ _ _ _ _ _ _ _ _
            refine r1 ?_; apply TL_nil; apply TQ_any
            refine TA_stepL [8] (by kernel_rfl) rfl ⟨?_, trivial⟩
            change TL _ _ _ _ _ _ _ _ _ _ _
            refine r1 ?_; apply TL_nil; apply TQ_any
            refine TA_done (by kernel_rfl) ?_
            exact TQ_mid () trivial sb (fun w h => h.sub (List.Sublist.cons _ (List.Sublist.refl _)))
        · change TL _ _ _ _ _ _ _ _ _ _ _
          refine r1 ?_; apply TL_nil; apply TQ_any
          refine TA_stepL [5] (by kernel_rfl) rfl ⟨?_, trivial⟩
          change TL _ _ _ _ _ _ _ _ _ _ _
          refine r1 ?_; apply TL_nil; apply TQ_any
          refine TA_stepL [7] (by kernel_rfl) rfl ⟨?_, trivial⟩
          change TL _ _ _ _ _ _ _ _ _ _ _
          refine r1 ?_; apply TL_nil; apply TQ_any
          refine TA_stepL [8] (by kernel_rfl) rfl ⟨?_, trivial⟩
          change TL _ _ _ _ _ _ _ _ _ _ _
          refine r1 ?_; apply TL_nil; apply TQ_any
          refine TA_done (by kernel_rfl) ?_
          exact TQ_mid () trivial sb (fun w h => h.sub (List.Sublist.cons _ (List.Sublist.refl _)))
      · change TL _ _ _ _ _ _ _ _ _ _ _
        refine r1 ?_; apply TL_nil; apply TQ_any
        refine TA_stepL [0, 2] (by kernel_rfl) rfl ⟨?_, ?_, trivial⟩
        · change TL _ _ _ _ _ _ _ _ _ _ _
          refine r1 ?_; apply TL_nil; apply TQ_any
          refine TA_stepL [2] (by kernel_rfl) rfl ⟨?_, trivial⟩
          change TL _ _ _ _ _ _ _ _ _ _ _
          (refine TL_callN rfl rfl rfl (fun w h => c47 S p (by omega) (by omega) w) ?_; rintro bc -); apply TL_nil; apply TQ_any
          refine TA_stepL [3] (by kernel_rfl) rfl ⟨?_, trivial⟩
          change TL _ _ _ _ _ _ _ _ _ _ _
          refine TL_callV rfl rfl rfl (fun w h => c46_no S p hS none_ _ _ 0 (by omega) hok w (ha.mono h) (Sl.of_blk h mm (fun _ _ => rfl) ⟨[], encC_flat _ _⟩)) ?_; apply TL_nil; apply TQ_any
          refine TA_stepL [4] (by kernel_rfl) rfl ⟨?_, trivial⟩
          change TL _ _ _ _ _ _ _ _ _ _ _
          refine r1 ?_; apply TL_nil; apply TQ_any
          refine TA_stepL [5, 6] (by kernel_rfl) rfl ⟨?_, ?_, trivial⟩
          · change TL _ _ _ _ _ _ _ _ _ _ _
            refine r1 ?_; apply TL_nil; apply TQ_any
            refine TA_stepL [6, 7] (by kernel_rfl) rfl ⟨?_, ?_, trivial⟩
            · change TL _ _ _ _ _ _ _ _ _ _ _
              refine r1 ?_; apply TL_nil; apply TQ_any
              refine TA_stepL [7] (by kernel_rfl) rfl ⟨?_, trivial⟩
              change TL _ _ _ _ _ _ _ _ _ _ _
              refine r1 ?_; apply TL_nil; apply TQ_any
              refine TA_stepL [8] (by kernel_rfl) rfl ⟨?_, trivial⟩
              change TL _ _ _ _ _ _ _ _ _ _ _
              refine r1 ?_; apply TL_nil; apply TQ_any
              refine TA_done (by kernel_rfl) ?_
              exact TQ_mid () trivial sb (fun w h => h.sub (List.Sublist.cons _ (List.Sublist.refl _)))
            · change TL _ _ _ _ _ _ _ _ _ _ _
              refine r1 ?_; apply TL_nil; apply TQ_any
              refine TA_stepL [6] (by kernel_rfl) rfl ⟨?_, trivial⟩
              change TL _ _ _ _ _ _ _ _ _ _ _
              refine r1 ?_; apply TL_nil; apply TQ_any
              refine TA_stepL [8] (by kernel_rfl) rfl ⟨?_, trivial⟩
              change TL _ _ _ _ _ _ _ _ _ _ _
              refine r1 ?_; apply TL_nil; apply TQ_any
              refine TA_done (by kernel_rfl) ?_
              exact TQ_mid () trivial sb (fun w h => h.sub (List.Sublist.cons _ (List.Sublist.refl _)))
          · change TL _ _ _ _ _ _ _ _ _ _ _
            refine r1 ?_; apply TL_nil; apply TQ_any
            refine TA_stepL [5] (by kernel_rfl) rfl ⟨?_, trivial⟩
            change TL _ _ _ _ _ _ _ _ _ _ _
            refine r1 ?_; apply TL_nil; apply TQ_any
            refine TA_stepL [7] (by kernel_rfl) rfl ⟨?_, trivial⟩
            change TL _ _ _ _ _ _ _ _ _ _ _
            refine r1 ?_; apply TL_nil; apply TQ_any
            refine TA_stepL [8] (by kernel_rfl) rfl ⟨?_, trivial⟩
            change TL _ _ _ _ _ _ _ _ _ _ _
            refine r1 ?_; apply TL_nil; apply TQ_any
            refine TA_done (by kernel_rfl) ?_
            exact TQ_mid () trivial sb (fun w h => h.sub (List.Sublist.cons _ (List.Sublist.refl _)))
        · change TL _ _ _ _ _ _ _ _ _ _ _
          (refine TL_callN rfl rfl rfl (fun w h => c47 S p (by omega) (by omega) w) ?_; rintro bc -); apply TL_nil; apply TQ_any
          refine TA_stepL [0] (by kernel_rfl) rfl ⟨?_, trivial⟩
          change TL _ _ _ _ _ _ _ _ _ _ _
          refine r1 ?_; apply TL_nil; apply TQ_any
          refine TA_stepL [3] (by kernel_rfl) rfl ⟨?_, trivial⟩
          change TL _ _ _ _ _ _ _ _ _ _ _
          refine TL_callV rfl rfl rfl (fun w h => c46_no S p hS none_ _ _ 0 (by omega) hok w (ha.mono h) (Sl.of_blk h mm (fun _ _ => rfl) ⟨[], encC_flat _ _⟩)) ?_; apply TL_nil; apply TQ_any
          refine TA_stepL [4] (by kernel_rfl) rfl ⟨?_, trivial⟩
          change TL _ _ _ _ _ _ _ _ _ _ _
          refine r1 ?_; apply TL_nil; apply TQ_any
          refine TA_stepL [5, 6] (by kernel_rfl) rfl ⟨?_, ?_, trivial⟩
          · change TL _ _ _ _ _ _ _ _ _ _ _
            refine r1 ?_; apply TL_nil; apply TQ_any
            refine TA_stepL [6, 7] (by kernel_rfl) rfl ⟨?_, ?_, trivial⟩
            · change TL _ _ _ _ _ _ _ _ _ _ _
              refine r1 ?_; apply TL_nil; apply TQ_any
              refine TA_stepL [7] (by kernel_rfl) rfl ⟨?_, trivial⟩
              change TL _ _ _ _ _ _ _ _ _ _ _
              refine r1 ?_; apply TL_nil; apply TQ_any
              refine TA_stepL [8] (by kernel_rfl) rfl ⟨?_, trivial⟩
              change TL _ _ _ _ _ _ _ _ _ _ _
              refine r1 ?_; apply TL_nil; apply TQ_any
              refine TA_done (by kernel_rfl) ?_
              exact TQ_mid () trivial sb (fun w h => h.sub (List.Sublist.cons _ (List.Sublist.refl _)))
            · change TL _ _ _ _ _ _ _ _ _ _ _
              refine r1 ?_; apply TL_nil; apply TQ_any
              refine TA_stepL [6] (by kernel_rfl) rfl ⟨?_, trivial⟩
              change TL _ _ _ _ _ _ _ _ _ _ _
              refine r1 ?_; apply TL_nil; apply TQ_any
              refine TA_stepL [8] (by kernel_rfl) rfl ⟨?_, trivial⟩
              change TL _ _ _ _ _ _ _ _ _ _ _
              refine r1 ?_; apply TL_nil; apply TQ_any
              refine TA_done (by kernel_rfl) ?_
              exact TQ_mid () trivial sb (fun w h => h.sub (List.Sublist.cons _ (List.Sublist.refl _)))
          · change TL _ _ _ _ _ _ _ _ _ _ _
            refine r1 ?_; apply TL_nil; apply TQ_any
            refine TA_stepL [5] (by kernel_rfl) rfl ⟨?_, trivial⟩
            change TL _ _ _ _ _ _ _ _ _ _ _
            refine r1 ?_; apply TL_nil; apply TQ_any
            refine TA_stepL [7] (by kernel_rfl) rfl ⟨?_, trivial⟩
            change TL _ _ _ _ _ _ _ _ _ _ _
            refine r1 ?_; apply TL_nil; apply TQ_any
            refine TA_stepL [8] (by kernel_rfl) rfl ⟨?_, trivial⟩
            change TL _ _ _ _ _ _ _ _ _ _ _
            refine r1 ?_; apply TL_nil; apply TQ_any
            refine TA_done (by kernel_rfl) ?_
            exact TQ_mid () trivial sb (fun w h => h.sub (List.Sublist.cons _ (List.Sublist.refl _)))
    repeat' (first | refine rn ?_ | (apply TL_box; exact rfl; exact rfl; exact rfl; intro _ _) | (apply TL_alloc; exact rfl; intro _ _) | (apply TL_buildSlice; exact rfl; exact rfl; exact rfl; exact rfl; exact rfl; intro _ _))
    exact TQ_ret2 Try.results32 (RV.celln rfl mm (by rfl)) (RV.tmp rfl) (fun w' hs => ⟨rfl, hs.below⟩)
  | true =>
    have hin' := hin
    simp only [In] at hin'
    obtain ⟨x, hx⟩ : ∃ x, S.thr[k.toNat]? = some x := ⟨_, List.getElem?_eq_getElem (by omega)⟩
    rw [slope_ok hS hin hok hx]
    have hne : S.thr ≠ [] := by intro h; rw [h] at hx; cases hx
    obtain ⟨⟨⟨x1, x2⟩, ⟨x3, x4⟩, _⟩, x5, x6, x7⟩ := hS.2.2.2.2.2.2 x (List.mem_of_getElem? hx)
    have hT1 := tbl_B hS hok (i := x.fr.toNat) (k := x.to.toNat) (by omega) (by omega)
    have hT2 := tbl_B hS hok (i := x.to.toNat) (k := x.fr.toNat) (by omega) (by omega)
    have hO := fall_ord hS hok (i := x.fr.toNat) (k := x.to.toNat) (by omega) (by omega)
    have hF1 : -20000000 ≤ (fallR (tbl S) x.fr.toNat x.to.toNat).1 ∧ (fallR (tbl S) x.fr.toNat x.to.toNat).1 ≤ 20000000 := by simp only [fallR]; omega
    have hF2 : -20000000 ≤ (fallR (tbl S) x.fr.toNat x.to.toNat).2 ∧ (fallR (tbl S) x.fr.toNat x.to.toNat).2 ≤ 20000000 := by simp only [fallR]; omega
    refine TC_join (σ := Nat × List Nat) (fun q => q.2.length = S.pts.toNat + 1) (fun q => [(1, .int .i64 k), (2, .pointer (some ⟨b2, 0, none⟩)), (4, .pointer (some ⟨b4, 0, none⟩)), (6, .slice (some ⟨q.1, 0, none⟩) (S.pts.toNat + 1) (S.pts.toNat + 1)), (7, .bool true)]) (fun q => (q.1, .cells (ocells (S.pts.toNat + 1) q.2 0) 46) :: (rowsH 3 (S.pts.toNat + 1) (tbl S) q.2 0 ++ [(b4, .cells [.int .i64 0, .int .i64 0] 36), (b2, .cells (encSv S p) 26)])) ?_ (fun q hbl => ?_)
    · refine TC_any Try.mixed ?_
      refine TA_stepL [0, 1] (by kernel_rfl) rfl ⟨?_, ?_, trivial⟩
      · change TL _ _ _ _ _ _ _ _ _ _ _
        refine r1 ?_; apply TL_nil; apply TQ_any
        refine TA_stepL [1] (by kernel_rfl) rfl ⟨?_, trivial⟩
        change TL _ _ _ _ _ _ _ _ _ _ _
        refine r1 ?_; apply TL_nil; apply TQ_any
        refine TA_stepL [2] (by kernel_rfl) rfl ⟨?_, trivial⟩
        change TL _ _ _ _ _ _ _ _ _ _ _
        (refine TL_callN rfl rfl rfl (fun w h => c47 S p (by omega) (by omega) w) ?_; rintro bc -); apply TL_nil; apply TQ_any
        refine TA_stepL [3] (by kernel_rfl) rfl ⟨?_, trivial⟩
        change TL _ _ _ _ _ _ _ _ _ _ _
        (refine TL_callN rfl rfl rfl (fun w h => c46_ok S p hS none_ _ _ 0 (by omega) hok w (ha.mono h) (Sl.of_blk h mm (fun _ _ => rfl) ⟨[], encC_flat _ _⟩)) ?_; rintro ⟨bo, bs⟩ hbl); apply TL_nil; apply TQ_any
        refine TA_stepL [4] (by kernel_rfl) rfl ⟨?_, trivial⟩
        change TL _ _ _ _ _ _ _ _ _ _ _
        refine r1 ?_; apply TL_nil; apply TQ_any
        refine TA_stepL [5, 6] (by kernel_rfl) rfl ⟨?_, ?_, trivial⟩
        · change TL _ _ _ _ _ _ _ _ _ _ _
          refine r1 ?_; apply TL_nil; apply TQ_any
          refine TA_stepL [6, 7] (by kernel_rfl) rfl ⟨?_, ?_, trivial⟩
          · change TL _ _ _ _ _ _ _ _ _ _ _
            refine r1 ?_; apply TL_nil; apply TQ_any
            refine TA_stepL [7] (by kernel_rfl) rfl ⟨?_, trivial⟩
            change TL _ _ _ _ _ _ _ _ _ _ _
            refine r1 ?_; apply TL_nil; apply TQ_any
            refine TA_stepL [8] (by kernel_rfl) rfl ⟨?_, trivial⟩
            change TL _ _ _ _ _ _ _ _ _ _ _
            refine r1 ?_; apply TL_nil; apply TQ_any
            refine TA_done (by kernel_rfl) ?_
            exact TQ_mid (bo, bs) hbl sb (fun w h => h.sub (List.Sublist.cons_cons _ (List.Sublist.append_left (List.Sublist.cons _ (List.Sublist.refl _)) _)))
          · change TL _ _ _ _ _ _ _ _ _ _ _
            refine r1 ?_; apply TL_nil; apply TQ_any
            refine TA_stepL [6] (by kernel_rfl) rfl ⟨?_, trivial⟩
            change TL _ _ _ _ _ _ _ _ _ _ _
            refine r1 ?_; apply TL_nil; apply TQ_any
            refine TA_stepL [8] (by kernel_rfl) rfl ⟨?_, trivial⟩
            change TL _ _ _ _ _ _ _ _ _ _ _
            refine r1 ?_; apply TL_nil; apply TQ_any
            refine TA_done (by kernel_rfl) ?_
            exact TQ_mid (bo, bs) hbl sb (fun w h => h.sub (List.Sublist.cons_cons _ (List.Sublist.append_left (List.Sublist.cons _ (List.Sublist.refl _)) _)))
        · change TL _ _ _ _ _ _ _ _ _ _ _
          refine r1 ?_; apply TL_nil; apply TQ_any
          refine TA_stepL [5] (by kernel_rfl) rfl ⟨?_, trivial⟩
          change TL _ _ _ _ _ _ _ _ _ _ _
          refine r1 ?_; apply TL_nil; apply TQ_any
          refine TA_stepL [7] (by kernel_rfl) rfl ⟨?_, trivial⟩
          change TL _ _ _ _ _ _ _ _ _ _ _
          refine r1 ?_; apply TL_nil; apply TQ_any
          refine TA_stepL [8] (by kernel_rfl) rfl ⟨?_, trivial⟩
          change TL _ _ _ _ _ _ _ _ _ _ _
          refine r1 ?_; apply TL_nil; apply TQ_any
          refine TA_done (by kernel_rfl) ?_
          exact TQ_mid (bo, bs) hbl sb (fun w h => h.sub (List.Sublist.cons_cons _ (List.Sublist.append_left (List.Sublist.cons _ (List.Sublist.refl _)) _)))
      · change TL _ _ _ _ _ _ _ _ _ _ _
        refine r1 ?_; apply TL_nil; apply TQ_any
        refine TA_stepL [0, 2] (by kernel_rfl) rfl ⟨?_, ?_, trivial⟩
        · change TL _ _ _ _ _ _ _ _ _ _ _
          refine r1 ?_; apply TL_nil; apply TQ_any
          refine TA_stepL [2] (by kernel_rfl) rfl ⟨?_, trivial⟩
          change TL _ _ _ _ _ _ _ _ _ _ _
          (refine TL_callN rfl rfl rfl (fun w h => c47 S p (by omega) (by omega) w) ?_; rintro bc -); apply TL_nil; apply TQ_any
          refine TA_stepL [3] (by kernel_rfl) rfl ⟨?_, trivial⟩
          change TL _ _ _ _ _ _ _ _ _ _ _
          (refine TL_callN rfl rfl rfl (fun w h => c46_ok S p hS none_ _ _ 0 (by omega) hok w (ha.mono h) (Sl.of_blk h mm (fun _ _ => rfl) ⟨[], encC_flat _ _⟩)) ?_; rintro ⟨bo, bs⟩ hbl); apply TL_nil; apply TQ_any
          refine TA_stepL [4] (by kernel_rfl) rfl ⟨?_, trivial⟩
          change TL _ _ _ _ _ _ _ _ _ _ _
          refine r1 ?_; apply TL_nil; apply TQ_any
          refine TA_stepL [5, 6] (by kernel_rfl) rfl ⟨?_, ?_, trivial⟩
          · change TL _ _ _ _ _ _ _ _ _ _ _
            refine r1 ?_; apply TL_nil; apply TQ_any
            refine TA_stepL [6, 7] (by kernel_rfl) rfl ⟨?_, ?_, trivial⟩
            · change TL _ _ _ _ _ _ _ _ _ _ _
              refine r1 ?_; apply TL_nil; apply TQ_any
              refine TA_stepL [7] (by kernel_rfl) rfl ⟨?_, trivial⟩
              change TL _ _ _ _ _ _ _ _ _ _ _
              refine r1 ?_; apply TL_nil; apply TQ_any
              refine TA_stepL [8] (by kernel_rfl) rfl ⟨?_, trivial⟩
              change TL _ _ _ _ _ _ _ _ _ _ _
              refine r1 ?_; apply TL_nil; apply TQ_any
              refine TA_done (by kernel_rfl) ?_
              exact TQ_mid (bo, bs) hbl sb (fun w h => h.sub (List.Sublist.cons_cons _ (List.Sublist.append_left (List.Sublist.cons _ (List.Sublist.refl _)) _)))
            · change TL _ _ _ _ _ _ _ _ _ _ _
              refine r1 ?_; apply TL_nil; apply TQ_any
              refine TA_stepL [6] (by kernel_rfl) rfl ⟨?_, trivial⟩
              change TL _ _ _ _ _ _ _ _ _ _ _
              refine r1 ?_; apply TL_nil; apply TQ_any
              refine TA_stepL [8] (by kernel_rfl) rfl ⟨?_, trivial⟩
              change TL _ _ _ _ _ _ _ _ _ _ _
              refine r1 ?_; apply TL_nil; apply TQ_any
              refine TA_done (by kernel_rfl) ?_
              exact TQ_mid (bo, bs) hbl sb (fun w h => h.sub (List.Sublist.cons_cons _ (List.Sublist.append_left (List.Sublist.cons _ (List.Sublist.refl _)) _)))
          · change TL _ _ _ _ _ _ _ _ _ _ _
            refine r1 ?_; apply TL_nil; apply TQ_any
            refine TA_stepL [5] (by kernel_rfl) rfl ⟨?_, trivial⟩
            change TL _ _ _ _ _ _ _ _ _ _ _
            refine r1 ?_; apply TL_nil; apply TQ_any
            refine TA_stepL [7] (by kernel_rfl) rfl ⟨?_, trivial⟩
            change TL _ _ _ _ _ _ _ _ _ _ _
            refine r1 ?_; apply TL_nil; apply TQ_any
            refine TA_stepL [8] (by kernel_rfl) rfl ⟨?_, trivial⟩
            change TL _ _ _ _ _ _ _ _ _ _ _
            refine r1 ?_; apply TL_nil; apply TQ_any
            refine TA_done (by kernel_rfl) ?_
            exact TQ_mid (bo, bs) hbl sb (fun w h => h.sub (List.Sublist.cons_cons _ (List.Sublist.append_left (List.Sublist.cons _ (List.Sublist.refl _)) _)))
        · change TL _ _ _ _ _ _ _ _ _ _ _
          (refine TL_callN rfl rfl rfl (fun w h => c47 S p (by omega) (by omega) w) ?_; rintro bc -); apply TL_nil; apply TQ_any
          refine TA_stepL [0] (by kernel_rfl) rfl ⟨?_, trivial⟩
          change TL _ _ _ _ _ _ _ _ _ _ _
          refine r1 ?_; apply TL_nil; apply TQ_any
          refine TA_stepL [3] (by kernel_rfl) rfl ⟨?_, trivial⟩
          change TL _ _ _ _ _ _ _ _ _ _ _
          (refine TL_callN rfl rfl rfl (fun w h => c46_ok S p hS none_ _ _ 0 (by omega) hok w (ha.mono h) (Sl.of_blk h mm (fun _ _ => rfl) ⟨[], encC_flat _ _⟩)) ?_; rintro ⟨bo, bs⟩ hbl); apply TL_nil; apply TQ_any
          refine TA_stepL [4] (by kernel_rfl) rfl ⟨?_, trivial⟩
          change TL _ _ _ _ _ _ _ _ _ _ _
          refine r1 ?_; apply TL_nil; apply TQ_any
          refine TA_stepL [5, 6] (by kernel_rfl) rfl ⟨?_, ?_, trivial⟩
          · change TL _ _ _ _ _ _ _ _ _ _ _
            refine r1 ?_; apply TL_nil; apply TQ_any
            refine TA_stepL [6, 7] (by kernel_rfl) rfl ⟨?_, ?_, trivial⟩
            · change TL _ _ _ _ _ _ _ _ _ _ _
              refine r1 ?_; apply TL_nil; apply TQ_any
              refine TA_stepL [7] (by kernel_rfl) rfl ⟨?_, trivial⟩
              change TL _ _ _ _ _ _ _ _ _ _ _
              refine r1 ?_; apply TL_nil; apply TQ_any
              refine TA_stepL [8] (by kernel_rfl) rfl ⟨?_, trivial⟩
              change TL _ _ _ _ _ _ _ _ _ _ _
              refine r1 ?_; apply TL_nil; apply TQ_any
              refine TA_done (by kernel_rfl) ?_
              exact TQ_mid (bo, bs) hbl sb (fun w h => h.sub (List.Sublist.cons_cons _ (List.Sublist.append_left (List.Sublist.cons _ (List.Sublist.refl _)) _)))
            · change TL _ _ _ _ _ _ _ _ _ _ _
              refine r1 ?_; apply TL_nil; apply TQ_any
              refine TA_stepL [6] (by kernel_rfl) rfl ⟨?_, trivial⟩
              change TL _ _ _ _ _ _ _ _ _ _ _
              refine r1 ?_; apply TL_nil; apply TQ_any
              refine TA_stepL [8] (by kernel_rfl) rfl ⟨?_, trivial⟩
              change TL _ _ _ _ _ _ _ _ _ _ _
              refine r1 ?_; apply TL_nil; apply TQ_any
              refine TA_done (by kernel_rfl) ?_
              exact TQ_mid (bo, bs) hbl sb (fun w h => h.sub (List.Sublist.cons_cons _ (List.Sublist.append_left (List.Sublist.cons _ (List.Sublist.refl _)) _)))
          · change TL _ _ _ _ _ _ _ _ _ _ _
            refine r1 ?_; apply TL_nil; apply TQ_any
            refine TA_stepL [5] (by kernel_rfl) rfl ⟨?_, trivial⟩
            change TL _ _ _ _ _ _ _ _ _ _ _
            refine r1 ?_; apply TL_nil; apply TQ_any
            refine TA_stepL [7] (by kernel_rfl) rfl ⟨?_, trivial⟩
            change TL _ _ _ _ _ _ _ _ _ _ _
            refine r1 ?_; apply TL_nil; apply TQ_any
            refine TA_stepL [8] (by kernel_rfl) rfl ⟨?_, trivial⟩
            change TL _ _ _ _ _ _ _ _ _ _ _
            refine r1 ?_; apply TL_nil; apply TQ_any
            refine TA_done (by kernel_rfl) ?_
            exact TQ_mid (bo, bs) hbl sb (fun w h => h.sub (List.Sublist.cons_cons _ (List.Sublist.append_left (List.Sublist.cons _ (List.Sublist.refl _)) _)))
    obtain ⟨bo, bs⟩ := q
    dsimp only at hbl ⊢
    refine TC_hperm (H' := (b4, .cells [.int .i64 0, .int .i64 0] 36) :: (b2, .cells (encSv S p) 26) :: (bo, .cells (ocells (S.pts.toNat + 1) bs 0) 46) :: rowsH 3 (S.pts.toNat + 1) (tbl S) bs 0) ?_ ?_
    · exact (List.Perm.cons _ (List.Perm.swap _ _ _)).trans ((List.Perm.swap _ _ _).trans (List.Perm.cons _ ((List.Perm.refl _ : List.Perm (_ :: _ :: _) _).trans (List.perm_append_comm (l₁ := [_, _])))))
    repeat' (first | refine rn ?_ | (apply TL_box; exact rfl; exact rfl; exact rfl; intro _ _) | (apply TL_alloc; exact rfl; intro _ _) | (apply TL_buildSlice; exact rfl; exact rfl; exact rfl; exact rfl; exact rfl; intro _ _))
    refine TL_index k.toNat rfl rfl rfl (fun w h => h.sl ha.s3) (by omega) (by omega) (Nat.le_refl _) ?_
    refine TL_load_eln (u := x) rfl rfl (fun w h => h.sl ha.s3) hx rfl ?_
    repeat' (first | refine rn ?_ | (apply TL_box; exact rfl; exact rfl; exact rfl; intro _ _) | (apply TL_alloc; exact rfl; intro _ _) | (apply TL_buildSlice; exact rfl; exact rfl; exact rfl; exact rfl; exact rfl; intro _ _))
    refine TL_call rfl rfl rfl _ _ _ (fun w h => c50 (tbl S) (S.pts.toNat + 1) bo bs hbl x.fr x.to (by omega) (by omega) (by omega) _ (List.Mem.tail _ (List.Mem.tail _ (List.Mem.tail _ (List.Mem.head _)))) (fun i b hb => List.Mem.tail _ (List.Mem.tail _ (List.Mem.tail _ (List.Mem.tail _ (rowsH_mem0 hb))))) w h) (fun _ _ => ?_)
    repeat' (first | refine rn ?_ | (apply TL_box; exact rfl; exact rfl; exact rfl; intro _ _) | (apply TL_alloc; exact rfl; intro _ _) | (apply TL_buildSlice; exact rfl; exact rfl; exact rfl; exact rfl; exact rfl; intro _ _))
    rename_i b9 _
    have d1 := div_B (a := (fallR (tbl S) x.fr.toNat x.to.toNat).1 * 1000) (b := x.long.1) (by omega) (by omega)
    apply TC_draw 16; kernel_rfl; exact Try.mixed
    · iterate 6 (refine' pv ?_; rotate_left)
      (refine' PG.val rfl rfl (by intro _X; refine TL_callV rfl rfl rfl (fun w _ => c60 ((fallR (tbl S) x.fr.toNat x.to.toNat).1 * 1000) x.long.2 (by omega) (by omega) w) ?_; exact qe) ?_; rotate_left)
      iterate 6 (refine' pv ?_; rotate_left)
      (refine' PG.val rfl rfl (by intro _X; refine TL_callV rfl rfl rfl (fun w _ => c61 ((fallR (tbl S) x.fr.toNat x.to.toNat).2 * 1000) x.long.1 (by omega) (by omega) w) ?_; exact qe) ?_; rotate_left)
      (refine' pv ?_; rotate_left)
      (refine' pn ?_; rotate_left)
      exact PG.nil
    rintro _ _ ⟨b10, _, rfl, rfl⟩
    change TL _ _ _ _ _ _ _ _ _ _ _
    repeat' (first | refine rn ?_ | (apply TL_box; exact rfl; exact rfl; exact rfl; intro _ _) | (apply TL_alloc; exact rfl; intro _ _) | (apply TL_buildSlice; exact rfl; exact rfl; exact rfl; exact rfl; exact rfl; intro _ _))
    refine TC_cond_dec rfl (fun g1 => ?_) (fun g1 => ?_)
    · repeat' (first | refine rn ?_ | (apply TL_box; exact rfl; exact rfl; exact rfl; intro _ _) | (apply TL_alloc; exact rfl; intro _ _) | (apply TL_buildSlice; exact rfl; exact rfl; exact rfl; exact rfl; exact rfl; intro _ _))
      refine TL_callV rfl rfl rfl (fun w _ => c60 ((fallR (tbl S) x.fr.toNat x.to.toNat).1 * 1000) x.long.1 (by omega) (by omega) w) ?_
      repeat' (first | refine rn ?_ | (apply TL_box; exact rfl; exact rfl; exact rfl; intro _ _) | (apply TL_alloc; exact rfl; intro _ _) | (apply TL_buildSlice; exact rfl; exact rfl; exact rfl; exact rfl; exact rfl; intro _ _))
      refine TC_cond_dec rfl (fun g2 => ?_) (fun g2 => ?_)
      · have e : slopeR (fallR (tbl S) x.fr.toNat x.to.toNat) x.long = ((fallR (tbl S) x.fr.toNat x.to.toNat).1 * 1000 / x.long.1, -(-((fallR (tbl S) x.fr.toNat x.to.toNat).2 * 1000) / x.long.2)) := by unfold slopeR; rw [if_pos g1, if_pos g2]
        rw [e]
        repeat' (first | refine rn ?_ | (apply TL_box; exact rfl; exact rfl; exact rfl; intro _ _) | (apply TL_alloc; exact rfl; intro _ _) | (apply TL_buildSlice; exact rfl; exact rfl; exact rfl; exact rfl; exact rfl; intro _ _))
        refine TL_callV rfl rfl rfl (fun w _ => c61 ((fallR (tbl S) x.fr.toNat x.to.toNat).2 * 1000) x.long.2 (by omega) (by omega) w) ?_
        repeat' (first | refine rn ?_ | (apply TL_box; exact rfl; exact rfl; exact rfl; intro _ _) | (apply TL_alloc; exact rfl; intro _ _) | (apply TL_buildSlice; exact rfl; exact rfl; exact rfl; exact rfl; exact rfl; intro _ _))
        exact TQ_ret2 Try.results32 (RV.celln rfl mm (by rfl)) (RV.tmp rfl) (fun w' hs => ⟨rfl, hs.below⟩)
      · have e : slopeR (fallR (tbl S) x.fr.toNat x.to.toNat) x.long = ((fallR (tbl S) x.fr.toNat x.to.toNat).1 * 1000 / x.long.1, -(-((fallR (tbl S) x.fr.toNat x.to.toNat).2 * 1000) / x.long.1)) := by unfold slopeR; rw [if_pos g1, if_neg g2]
        rw [e]
        repeat' (first | refine rn ?_ | (apply TL_box; exact rfl; exact rfl; exact rfl; intro _ _) | (apply TL_alloc; exact rfl; intro _ _) | (apply TL_buildSlice; exact rfl; exact rfl; exact rfl; exact rfl; exact rfl; intro _ _))
        exact TQ_ret2 Try.results32 (RV.celln rfl mm (by rfl)) (RV.tmp rfl) (fun w' hs => ⟨rfl, hs.below⟩)
    · skip
      repeat' (first | refine rn ?_ | (apply TL_box; exact rfl; exact rfl; exact rfl; intro _ _) | (apply TL_alloc; exact rfl; intro _ _) | (apply TL_buildSlice; exact rfl; exact rfl; exact rfl; exact rfl; exact rfl; intro _ _))
      refine TC_cond_dec rfl (fun g2 => ?_) (fun g2 => ?_)
      · have e : slopeR (fallR (tbl S) x.fr.toNat x.to.toNat) x.long = ((fallR (tbl S) x.fr.toNat x.to.toNat).1 * 1000 / x.long.2, -(-((fallR (tbl S) x.fr.toNat x.to.toNat).2 * 1000) / x.long.2)) := by unfold slopeR; rw [if_neg g1, if_pos g2]
        rw [e]
        repeat' (first | refine rn ?_ | (apply TL_box; exact rfl; exact rfl; exact rfl; intro _ _) | (apply TL_alloc; exact rfl; intro _ _) | (apply TL_buildSlice; exact rfl; exact rfl; exact rfl; exact rfl; exact rfl; intro _ _))
        refine TL_callV rfl rfl rfl (fun w _ => c61 ((fallR (tbl S) x.fr.toNat x.to.toNat).2 * 1000) x.long.2 (by omega) (by omega) w) ?_
        repeat' (first | refine rn ?_ | (apply TL_box; exact rfl; exact rfl; exact rfl; intro _ _) | (apply TL_alloc; exact rfl; intro _ _) | (apply TL_buildSlice; exact rfl; exact rfl; exact rfl; exact rfl; exact rfl; intro _ _))
        exact TQ_ret2 Try.results32 (RV.celln rfl mm (by rfl)) (RV.tmp rfl) (fun w' hs => ⟨rfl, hs.below⟩)
      · have e : slopeR (fallR (tbl S) x.fr.toNat x.to.toNat) x.long = ((fallR (tbl S) x.fr.toNat x.to.toNat).1 * 1000 / x.long.2, -(-((fallR (tbl S) x.fr.toNat x.to.toNat).2 * 1000) / x.long.1)) := by unfold slopeR; rw [if_neg g1, if_neg g2]
        rw [e]
        repeat' (first | refine rn ?_ | (apply TL_box; exact rfl; exact rfl; exact rfl; intro _ _) | (apply TL_alloc; exact rfl; intro _ _) | (apply TL_buildSlice; exact rfl; exact rfl; exact rfl; exact rfl; exact rfl; intro _ _))
        exact TQ_ret2 Try.results32 (RV.celln rfl mm (by rfl)) (RV.tmp rfl) (fun w' hs => ⟨rfl, hs.below⟩)
end Go.Proofs.Ytoolblbdmmiahaa
