/- Walks: Heights and Fall of the reference; the statement LevelHeights. -/
import Derived.Test.YtoolblbdmmiahaaL9
namespace Go.Proofs.Ytoolblbdmmiahaa
open Go Go.Eng Go.RowKit Go.Proofs
set_option maxHeartbeats 4000000
set_option maxRecDepth 10000
attribute [local irreducible] TL TC TQ

theorem c46_ok (S : Sv) (p : Pl) (hS : OkSv S) (o : Nat → Bool) (ao : Option Addr) (cc : Nat) (wd : Int) (hwd : 0 ≤ wd ∧ wd ≤ 40000000) (hok : (solveR S o wd).2 = true) (w : World) (ha : SvAt w S p) (hcn : Sl w 1 encB1 ao (cntL (S.shots.length + S.marks.length) (fun i => !o i))) :
    Calls Try.prog 46 #[.agg (encSv S p).toArray, .slice ao (S.shots.length + S.marks.length) cc, .int .i64 wd] w
      (RetP w.heap.size w (fun q : Nat × List Nat => .tuple #[.slice (some ⟨q.1, 0, none⟩) (S.pts.toNat + 1) (S.pts.toNat + 1), .bool true]) (fun q => (q.1, .cells (ocells (S.pts.toNat + 1) q.2 0) 46) :: rowsH 3 (S.pts.toNat + 1) (solveR S o wd).1 q.2 0) (fun q => q.2.length = S.pts.toNat + 1)) := by
  refine (c46 S p hS o ao cc wd hwd w ha hcn).mono ?_
  rintro e w' ⟨q, ⟨hq, hq2⟩, he, hs⟩
  obtain ⟨x, rfl⟩ := Option.isSome_iff_exists.1 (hq.2 hok)
  rw [hok] at he
  exact ⟨x, hq2 x rfl, he, hs⟩
theorem c46_no (S : Sv) (p : Pl) (hS : OkSv S) (o : Nat → Bool) (ao : Option Addr) (cc : Nat) (wd : Int) (hwd : 0 ≤ wd ∧ wd ≤ 40000000) (hok : (solveR S o wd).2 = false) (w : World) (ha : SvAt w S p) (hcn : Sl w 1 encB1 ao (cntL (S.shots.length + S.marks.length) (fun i => !o i))) :
    Calls Try.prog 46 #[.agg (encSv S p).toArray, .slice ao (S.shots.length + S.marks.length) cc, .int .i64 wd] w
      (RetV w (.tuple #[.slice none 0 0, .bool false])) := by
  refine (c46 S p hS o ao cc wd hwd w ha hcn).mono ?_
  rintro e w' ⟨q, ⟨hq, hq2⟩, he, hs⟩
  cases q with
  | some x => have := hq.1 rfl; rw [hok] at this; cases this
  | none => rw [hok] at he; exact ⟨he, hs.below⟩
theorem c17 (S : Sv) (p : Pl) (h1 : S.shots.length ≤ 1000000) (h2 : S.marks.length ≤ 1000000) (h3 : S.thr.length ≤ 1000000) (w : World) (ha : SvAt w S p) :
    Calls Try.prog 17 #[.agg (encSv S p).toArray] w (RetP w.heap.size w (fun q : Option Addr × Nat × Hp => .tuple #[.slice q.1 (heightsF S).1.length q.2.1, .int .i64 (heightsF S).2]) (fun q => q.2.2) (fun q => Row 36 2 encSp q.1 q.2.1 q.2.2 (heightsF S).1)) := by
  refine enter (args := [.agg (encSv S p).toArray]) Try.func17 rfl Try.ntmps17 rfl (SH.refl _) ?_
  repeat' (first | refine rn ?_ | (apply TL_box; exact rfl; exact rfl; exact rfl; intro _ _) | (apply TL_alloc; exact rfl; intro _ _) | (apply TL_buildSlice; exact rfl; exact rfl; exact rfl; exact rfl; exact rfl; intro _ _))
  rename_i b1 _
  refine TL_callV rfl rfl rfl (fun w h => c21 S p h1 h2 h3 w (ha.mono h)) ?_
  by_cases hS : OkSv S
  rotate_left
  · have e : heightsF S = ([], 10) := by unfold heightsF; rw [if_pos hS]
    rw [e, checkS_no hS]
    repeat' (first | refine rn ?_ | (apply TL_box; exact rfl; exact rfl; exact rfl; intro _ _) | (apply TL_alloc; exact rfl; intro _ _) | (apply TL_buildSlice; exact rfl; exact rfl; exact rfl; exact rfl; exact rfl; intro _ _))
    exact TQ_ret2 Try.results17 (RV.tmp rfl) (RV.tmp rfl) (fun w' hs => ⟨(none, 0, []), Row.nil _ _ _, rfl, hs.sub (List.nil_sublist _)⟩)
  rw [checkS_ok hS]
  have hp := hS.1
  simp only [In] at hp
  repeat' (first | refine rn ?_ | (apply TL_box; exact rfl; exact rfl; exact rfl; intro _ _) | (apply TL_alloc; exact rfl; intro _ _) | (apply TL_buildSlice; exact rfl; exact rfl; exact rfl; exact rfl; exact rfl; intro _ _))
  cases hok : okS S with
  | false =>
    have e : heightsF S = ([], 11) := by unfold heightsF; rw [if_neg (not_not_intro hS), if_neg (by rw [hok]; simp)]
    rw [e]
    refine TC_join (σ := Unit) (fun _ => True) (fun _ => [(1, .pointer (some ⟨b1, 0, none⟩)), (4, .slice none 0 0), (5, .bool false)]) (fun _ => [(b1, .cells (encSv S p) 26)]) ?_ (fun _ _ => ?_)
    · refine TC_any Try.mixed ?_
      refine TA_stepL [0, 1] (by kernel_rfl) rfl ⟨?_, ?_, trivial⟩
      · change TL _ _ _ _ _ _ _ _ _ _ _
        refine r1 ?_; apply TL_nil; apply TQ_any
        refine TA_stepL [1] (by kernel_rfl) rfl ⟨?_, trivial⟩
        change TL _ _ _ _ _ _ _ _ _ _ _
        refine r1 ?_; apply TL_nil; apply TQ_any
        refine TA_stepL [2] (by kernel_rfl) rfl ⟨?_, trivial⟩
        change TL _ _ _ _ _ _ _ _ _ _ _
        (refine TL_callN rfl rfl rfl (fun w h => c47 S p (by omega) (by omega) w) ?_; rintro bc -); apply TL_nil; apply TQ_any
        refine TA_stepL [3] (by kernel_rfl) rfl ⟨?_, trivial⟩
        change TL _ _ _ _ _ _ _ _ _ _ _
        refine TL_callV rfl rfl rfl (fun w h => c46_no S p hS none_ _ _ 0 (by omega) hok w (ha.mono h) (Sl.of_blk h mm (fun _ _ => rfl) ⟨[], encC_flat _ _⟩)) ?_; apply TL_nil; apply TQ_any
        refine TA_stepL [4] (by kernel_rfl) rfl ⟨?_, trivial⟩
        change TL _ _ _ _ _ _ _ _ _ _ _
        refine r1 ?_; apply TL_nil; apply TQ_any
        refine TA_stepL [5, 6] (by kernel_rfl) rfl ⟨?_, ?_, trivial⟩
        · change TL _ _ _ _ _ _ _ _ _ _ _
          refine r1 ?_; apply TL_nil; apply TQ_any
          refine TA_stepL [6, 7] (by kernel_rfl) rfl ⟨?_, ?_, trivial⟩
          · change TL _ _ _ _ _ _ _ _ _ _ _
            refine r1 ?_; apply TL_nil; apply TQ_any
            refine TA_stepL [7] (by kernel_rfl) rfl ⟨?_, trivial⟩
            change TL _ _ _ _ _ _ _ _ _ _ _
            refine r1 ?_; apply TL_nil; apply TQ_any
            refine TA_stepL [8] (by kernel_rfl) rfl ⟨?_, trivial⟩
            change TL _ _ _ _ _ _ _ _ _ _ _
            refine r1 ?_; apply TL_nil; apply TQ_any
            refine TA_done (by kernel_rfl) ?_
            exact TQ_mid () trivial sb (fun w h => h.sub (List.Sublist.cons _ (List.Sublist.refl _)))
          · change TL _ _ _ _ _ _ _ _ _ _ _
            refine r1 ?_; apply TL_nil; apply TQ_any
            refine TA_stepL [6] (by kernel_rfl) rfl ⟨?_, trivial⟩
            change TL _ _ _ _ _ _ _ _ _ _ _
            refine r1 ?_; apply TL_nil; apply TQ_any
            refine TA_stepL [8] (by kernel_rfl) rfl ⟨?_, trivial⟩
            change TL _ _ _ _ _ _ _ _ _ _ _
            refine r1 ?_; apply TL_nil; apply TQ_any
            refine TA_done (by kernel_rfl) ?_
            exact TQ_mid () trivial sb (fun w h => h.sub (List.Sublist.cons _ (List.Sublist.refl _)))
        · change TL _ _ _ _ _ _ _ _ _ _ _
          refine r1 ?_; apply TL_nil; apply TQ_any
          refine TA_stepL [5] (by kernel_rfl) rfl ⟨?_, trivial⟩
          change TL _ _ _ _ _ _ _ _ _ _ _
          refine r1 ?_; apply TL_nil; apply TQ_any
          refine TA_stepL [7] (by kernel_rfl) rfl ⟨?_, trivial⟩
          change TL _ _ _ _ _ _ _ _ _ _ _
          refine r1 ?_; apply TL_nil; apply TQ_any
          refine TA_stepL [8] (by kernel_rfl) rfl ⟨?_, trivial⟩
          change TL _ _ _ _ _ _ _ _ _ _ _
          refine r1 ?_; apply TL_nil; apply TQ_any
          refine TA_done (by kernel_rfl) ?_
          exact TQ_mid () trivial sb (fun w h => h.sub (List.Sublist.cons _ (List.Sublist.refl _)))
      · change TL _ _ _ _ _ _ _ _ _ _ _
        refine r1 ?_; apply TL_nil; apply TQ_any
        refine TA_stepL [0, 2] (by kernel_rfl) rfl ⟨?_, ?_, trivial⟩
        · change TL _ _ _ _ _ _ _ _ _ _ _
          refine r1 ?_; apply TL_nil; apply TQ_any
          refine TA_stepL [2] (by kernel_rfl) rfl ⟨?_, trivial⟩
          change TL _ _ _ _ _ _ _ _ _ _ _
          (refine TL_callN rfl rfl rfl (fun w h => c47 S p (by omega) (by omega) w) ?_; rintro bc -); apply TL_nil; apply TQ_any
          refine TA_stepL [3] (by kernel_rfl) rfl ⟨?_, trivial⟩
          change TL _ _ _ _ _ _ _ _ _ _ _
          refine TL_callV rfl rfl rfl (fun w h => c46_no S p hS none_ _ _ 0 (by omega) hok w (ha.mono h) (Sl.of_blk h mm (fun _ _ => rfl) ⟨[], encC_flat _ _⟩)) ?_; apply TL_nil; apply TQ_any
          refine TA_stepL [4] (by kernel_rfl) rfl ⟨?_, trivial⟩
          change TL _ _ _ _ _ _ _ _ _ _ _
          refine r1 ?_; apply TL_nil; apply TQ_any
          refine TA_stepL [5, 6] (by kernel_rfl) rfl ⟨?_, ?_, trivial⟩
          · change TL _ _ _ _ _ _ _ _ _ _ _
            refine r1 ?_; apply TL_nil; apply TQ_any
            refine TA_stepL [6, 7] (by kernel_rfl) rfl ⟨?_, ?_, trivial⟩
            · change TL _ _ _ _ _ _ _ _ _ _ _
              refine r1 ?_; apply TL_nil; apply TQ_any
              refine TA_stepL [7] (by kernel_rfl) rfl ⟨?_, trivial⟩
              change TL _ _ _ _ _ _ _ _ _ _ _
              refine r1 ?_; apply TL_nil; apply TQ_any
              refine TA_stepL [8] (by kernel_rfl) rfl ⟨?_, trivial⟩
              change TL _ _ _ _ _ _ _ _ _ _ _
              refine r1 ?_; apply TL_nil; apply TQ_any
              refine TA_done (by kernel_rfl) ?_
              exact TQ_mid () trivial sb (fun w h => h.sub (List.Sublist.cons _ (List.Sublist.refl _)))
            · change TL _ _ _ _ _ _ _ _ _ _ _
              refine r1 ?_; apply TL_nil; apply TQ_any
              refine TA_stepL [6] (by kernel_rfl) rfl ⟨?_, trivial⟩
              change TL _ _ _ _ _ _ _ _ _ _ _
              refine r1 ?_; apply TL_nil; apply TQ_any
              refine TA_stepL [8] (by kernel_rfl) rfl ⟨?_, trivial⟩
              change TL _ _ _ _ _ _ _ _ _ _ _
              refine r1 ?_; apply TL_nil; apply TQ_any
              refine TA_done (by kernel_rfl) ?_
              exact TQ_mid () trivial sb (fun w h => h.sub (List.Sublist.cons _ (List.Sublist.refl _)))
          · change TL _ _ _ _ _ _ _ _ _ _ _
            refine r1 ?_; apply TL_nil; apply TQ_any
            refine TA_stepL [5] (by kernel_rfl) rfl ⟨?_, trivial⟩
            change TL _ _ _ _ _ _ _ _ _ _ _
            refine r1 ?_; apply TL_nil; apply TQ_any
            refine TA_stepL [7] (by kernel_rfl) rfl ⟨?_, trivial⟩
            change TL _ _ _ _ _ _ _ _ _ _ _
            refine r1 ?_; apply TL_nil; apply TQ_any
            refine TA_stepL [8] (by kernel_rfl) rfl ⟨?_, trivial⟩
            change TL _ _ _ _ _ _ _ _ _ _ _
            refine r1 ?_; apply TL_nil; apply TQ_any
            refine TA_done (by kernel_rfl) ?_
            exact TQ_mid () trivial sb (fun w h => h.sub (List.Sublist.cons _ (List.Sublist.refl _)))
        · change TL _ _ _ _ _ _ _ _ _ _ _
          (refine TL_callN rfl rfl rfl (fun w h => c47 S p (by omega) (by omega) w) ?_; rintro bc -); apply TL_nil; apply TQ_any
          refine TA_stepL [0] (by kernel_rfl) rfl ⟨?_, trivial⟩
          change TL _ _ _ _ _ _ _ _ _ _ _
          refine r1 ?_; apply TL_nil; apply TQ_any
          refine TA_stepL [3] (by kernel_rfl) rfl ⟨?_, trivial⟩
          change TL _ _ _ _ _ _ _ _ _ _ _
          refine TL_callV rfl rfl rfl (fun w h => c46_no S p hS none_ _ _ 0 (by omega) hok w (ha.mono h) (Sl.of_blk h mm (fun _ _ => rfl) ⟨[], encC_flat _ _⟩)) ?_; apply TL_nil; apply TQ_any
          refine TA_stepL [4] (by kernel_rfl) rfl ⟨?_, trivial⟩
          change TL _ _ _ _ _ _ _ _ _ _ _
          refine r1 ?_; apply TL_nil; apply TQ_any
          refine TA_stepL [5, 6] (by kernel_rfl) rfl ⟨?_, ?_, trivial⟩
          · change TL _ _ _ _ _ _ _ _ _ _ _
            refine r1 ?_; apply TL_nil; apply TQ_any
            refine TA_stepL [6, 7] (by kernel_rfl) rfl ⟨?_, ?_, trivial⟩
            · change TL _ _ _ _ _ _ _ _ _ _ _
              refine r1 ?_; apply TL_nil; apply TQ_any
              refine TA_stepL [7] (by kernel_rfl) rfl ⟨?_, trivial⟩
              change TL _ _ _ _ _ _ _ _ _ _ _
              refine r1 ?_; apply TL_nil; apply TQ_any
              refine TA_stepL [8] (by kernel_rfl) rfl ⟨?_, trivial⟩
              change TL _ _ _ _ _ _ _ _ _ _ _
              refine r1 ?_; apply TL_nil; apply TQ_any
              refine TA_done (by kernel_rfl) ?_
              exact TQ_mid () trivial sb (fun w h => h.sub (List.Sublist.cons _ (List.Sublist.refl _)))
            · change TL _ _ _ _ _ _ _ _ _ _ _
              refine r1 ?_; apply TL_nil; apply TQ_any
              refine TA_stepL [6] (by kernel_rfl) rfl ⟨?_, trivial⟩
              change TL _ _ _ _ _ _ _ _ _ _ _
              refine r1 ?_; apply TL_nil; apply TQ_any
              refine TA_stepL [8] (by kernel_rfl) rfl ⟨?_, trivial⟩
              change TL _ _ _ _ _ _ _ _ _ _ _
              refine r1 ?_; apply TL_nil; apply TQ_any
              refine TA_done (by kernel_rfl) ?_
              exact TQ_mid () trivial sb (fun w h => h.sub (List.Sublist.cons _ (List.Sublist.refl _)))
          · change TL _ _ _ _ _ _ _ _ _ _ _
            refine r1 ?_; apply TL_nil; apply TQ_any
            refine TA_stepL [5] (by kernel_rfl) rfl ⟨?_, trivial⟩
            change TL _ _ _ _ _ _ _ _ _ _ _
            refine r1 ?_; apply TL_nil; apply TQ_any
            refine TA_stepL [7] (by kernel_rfl) rfl ⟨?_, trivial⟩
            change TL _ _ _ _ _ _ _ _ _ _ _
            refine r1 ?_; apply TL_nil; apply TQ_any
            refine TA_stepL [8] (by kernel_rfl) rfl ⟨?_, trivial⟩
            change TL _ _ _ _ _ _ _ _ _ _ _
            refine r1 ?_; apply TL_nil; apply TQ_any
            refine TA_done (by kernel_rfl) ?_
            exact TQ_mid () trivial sb (fun w h => h.sub (List.Sublist.cons _ (List.Sublist.refl _)))
    repeat' (first | refine rn ?_ | (apply TL_box; exact rfl; exact rfl; exact rfl; intro _ _) | (apply TL_alloc; exact rfl; intro _ _) | (apply TL_buildSlice; exact rfl; exact rfl; exact rfl; exact rfl; exact rfl; intro _ _))
    exact TQ_ret2 Try.results17 (RV.tmp rfl) (RV.tmp rfl) (fun w' hs => ⟨(none, 0, []), Row.nil _ _ _, rfl, hs.sub (List.nil_sublist _)⟩)
  | true =>
    have e : heightsF S = (htsL S S.pts.toNat, 0) := by unfold heightsF; rw [if_neg (not_not_intro hS), if_pos hok]; rfl
    rw [e]
    refine TC_join (σ := Nat × List Nat) (fun q => q.2.length = S.pts.toNat + 1) (fun q => [(1, .pointer (some ⟨b1, 0, none⟩)), (4, .slice (some ⟨q.1, 0, none⟩) (S.pts.toNat + 1) (S.pts.toNat + 1)), (5, .bool true)]) (fun q => (q.1, .cells (ocells (S.pts.toNat + 1) q.2 0) 46) :: (rowsH 3 (S.pts.toNat + 1) (tbl S) q.2 0 ++ [(b1, .cells (encSv S p) 26)])) ?_ (fun q hbl => ?_)
    · refine TC_any Try.mixed ?_
      refine TA_stepL [0, 1] (by kernel_rfl) rfl ⟨?_, ?_, trivial⟩
      · change TL _ _ _ _ _ _ _ _ _ _ _
        refine r1 ?_; apply TL_nil; apply TQ_any
        refine TA_stepL [1] (by kernel_rfl) rfl ⟨?_, trivial⟩
        change TL _ _ _ _ _ _ _ _ _ _ _
        refine r1 ?_; apply TL_nil; apply TQ_any
        refine TA_stepL [2] (by kernel_rfl) rfl ⟨?_, trivial⟩
        change TL _ _ _ _ _ _ _ _ _ _ _
        (refine TL_callN rfl rfl rfl (fun w h => c47 S p (by omega) (by omega) w) ?_; rintro bc -); apply TL_nil; apply TQ_any
        refine TA_stepL [3] (by kernel_rfl) rfl ⟨?_, trivial⟩
        change TL _ _ _ _ _ _ _ _ _ _ _
        (refine TL_callN rfl rfl rfl (fun w h => c46_ok S p hS none_ _ _ 0 (by omega) hok w (ha.mono h) (Sl.of_blk h mm (fun _ _ => rfl) ⟨[], encC_flat _ _⟩)) ?_; rintro ⟨bo, bs⟩ hbl); apply TL_nil; apply TQ_any
        refine TA_stepL [4] (by kernel_rfl) rfl ⟨?_, trivial⟩
        change TL _ _ _ _ _ _ _ _ _ _ _
        refine r1 ?_; apply TL_nil; apply TQ_any
        refine TA_stepL [5, 6] (by kernel_rfl) rfl ⟨?_, ?_, trivial⟩
        · change TL _ _ _ _ _ _ _ _ _ _ _
          refine r1 ?_; apply TL_nil; apply TQ_any
          refine TA_stepL [6, 7] (by kernel_rfl) rfl ⟨?_, ?_, trivial⟩
          · change TL _ _ _ _ _ _ _ _ _ _ _
            refine r1 ?_; apply TL_nil; apply TQ_any
            refine TA_stepL [7] (by kernel_rfl) rfl ⟨?_, trivial⟩
            change TL _ _ _ _ _ _ _ _ _ _ _
            refine r1 ?_; apply TL_nil; apply TQ_any
            refine TA_stepL [8] (by kernel_rfl) rfl ⟨?_, trivial⟩
            change TL _ _ _ _ _ _ _ _ _ _ _
            refine r1 ?_; apply TL_nil; apply TQ_any
            refine TA_done (by kernel_rfl) ?_
            exact TQ_mid (bo, bs) hbl sb (fun w h => h.sub (List.Sublist.cons_cons _ (List.Sublist.append_left (List.Sublist.cons _ (List.Sublist.refl _)) _)))
          · change TL _ _ _ _ _ _ _ _ _ _ _
            refine r1 ?_; apply TL_nil; apply TQ_any
            refine TA_stepL [6] (by kernel_rfl) rfl ⟨?_, trivial⟩
            change TL _ _ _ _ _ _ _ _ _ _ _
            refine r1 ?_; apply TL_nil; apply TQ_any
            refine TA_stepL [8] (by kernel_rfl) rfl ⟨?_, trivial⟩
            change TL _ _ _ _ _ _ _ _ _ _ _
            refine r1 ?_; apply TL_nil; apply TQ_any
            refine TA_done (by kernel_rfl) ?_
            exact TQ_mid (bo, bs) hbl sb (fun w h => h.sub (List.Sublist.cons_cons _ (List.Sublist.append_left (List.Sublist.cons _ (List.Sublist.refl _)) _)))
        · change TL _ _ _ _ _ _ _ _ _ _ _
          refine r1 ?_; apply TL_nil; apply TQ_any
          refine TA_stepL [5] (by kernel_rfl) rfl ⟨?_, trivial⟩
          change TL _ _ _ _ _ _ _ _ _ _ _
          refine r1 ?_; apply TL_nil; apply TQ_any
          refine TA_stepL [7] (by kernel_rfl) rfl ⟨?_, trivial⟩
          change TL _ _ _ _ _ _ _ _ _ _ _
          refine r1 ?_; apply TL_nil; apply TQ_any
          refine TA_stepL [8] (by kernel_rfl) rfl ⟨?_, trivial⟩
          change TL _ _ _ _ _ _ _ _ _ _ _
          refine r1 ?_; apply TL_nil; apply TQ_any
          refine TA_done (by kernel_rfl) ?_
          exact TQ_mid (bo, bs) hbl sb (fun w h => h.sub (List.Sublist.cons_cons _ (List.Sublist.append_left (List.Sublist.cons _ (List.Sublist.refl _)) _)))
      · change TL _ _ _ _ _ _ _ _ _ _ _
        refine r1 ?_; apply TL_nil; apply TQ_any
        refine TA_stepL [0, 2] (by kernel_rfl) rfl ⟨?_, ?_, trivial⟩
        · change TL _ _ _ _ _ _ _ _ _ _ _
          refine r1 ?_; apply TL_nil; apply TQ_any
          refine TA_stepL [2] (by kernel_rfl) rfl ⟨?_, trivial⟩
          change TL _ _ _ _ _ _ _ _ _ _ _
          (refine TL_callN rfl rfl rfl (fun w h => c47 S p (by omega) (by omega) w) ?_; rintro bc -); apply TL_nil; apply TQ_any
          refine TA_stepL [3] (by kernel_rfl) rfl ⟨?_, trivial⟩
          change TL _ _ _ _ _ _ _ _ _ _ _
          (refine TL_callN rfl rfl rfl (fun w h => c46_ok S p hS none_ _ _ 0 (by omega) hok w (ha.mono h) (Sl.of_blk h mm (fun _ _ => rfl) ⟨[], encC_flat _ _⟩)) ?_; rintro ⟨bo, bs⟩ hbl); apply TL_nil; apply TQ_any
          refine TA_stepL [4] (by kernel_rfl) rfl ⟨?_, trivial⟩
          change TL _ _ _ _ _ _ _ _ _ _ _
          refine r1 ?_; apply TL_nil; apply TQ_any
          refine TA_stepL [5, 6] (by kernel_rfl) rfl ⟨?_, ?_, trivial⟩
          · change TL _ _ _ _ _ _ _ _ _ _ _
            refine r1 ?_; apply TL_nil; apply TQ_any
            refine TA_stepL [6, 7] (by kernel_rfl) rfl ⟨?_, ?_, trivial⟩
            · change TL _ _ _ _ _ _ _ _ _ _ _
              refine r1 ?_; apply TL_nil; apply TQ_any
              refine TA_stepL [7] (by kernel_rfl) rfl ⟨?_, trivial⟩
              change TL _ _ _ _ _ _ _ _ _ _ _
              refine r1 ?_; apply TL_nil; apply TQ_any
              refine TA_stepL [8] (by kernel_rfl) rfl ⟨?_, trivial⟩
              change TL _ _ _ _ _ _ _ _ _ _ _
              refine r1 ?_; apply TL_nil; apply TQ_any
              refine TA_done (by kernel_rfl) ?_
              exact TQ_mid (bo, bs) hbl sb (fun w h => h.sub (List.Sublist.cons_cons _ (List.Sublist.append_left (List.Sublist.cons _ (List.Sublist.refl _)) _)))
            · change TL _ _ _ _ _ _ _ _ _ _ _
              refine r1 ?_; apply TL_nil; apply TQ_any
              refine TA_stepL [6] (by kernel_rfl) rfl ⟨?_, trivial⟩
              change TL _ _ _ _ _ _ _ _ _ _ _
              refine r1 ?_; apply TL_nil; apply TQ_any
              refine TA_stepL [8] (by kernel_rfl) rfl ⟨?_, trivial⟩
              change TL _ _ _ _ _ _ _ _ _ _ _
              refine r1 ?_; apply TL_nil; apply TQ_any
              refine TA_done (by kernel_rfl) ?_
              exact TQ_mid (bo, bs) hbl sb (fun w h => h.sub (List.Sublist.cons_cons _ (List.Sublist.append_left (List.Sublist.cons _ (List.Sublist.refl _)) _)))
          · change TL _ _ _ _ _ _ _ _ _ _ _
            refine r1 ?_; apply TL_nil; apply TQ_any
            refine TA_stepL [5] (by kernel_rfl) rfl ⟨?_, trivial⟩
            change TL _ _ _ _ _ _ _ _ _ _ _
            refine r1 ?_; apply TL_nil; apply TQ_any
            refine TA_stepL [7] (by kernel_rfl) rfl ⟨?_, trivial⟩
            change TL _ _ _ _ _ _ _ _ _ _ _
            refine r1 ?_; apply TL_nil; apply TQ_any
            refine TA_stepL [8] (by kernel_rfl) rfl ⟨?_, trivial⟩
            change TL _ _ _ _ _ _ _ _ _ _ _
            refine r1 ?_; apply TL_nil; apply TQ_any
            refine TA_done (by kernel_rfl) ?_
            exact TQ_mid (bo, bs) hbl sb (fun w h => h.sub (List.Sublist.cons_cons _ (List.Sublist.append_left (List.Sublist.cons _ (List.Sublist.refl _)) _)))
        · change TL _ _ _ _ _ _ _ _ _ _ _
          (refine TL_callN rfl rfl rfl (fun w h => c47 S p (by omega) (by omega) w) ?_; rintro bc -); apply TL_nil; apply TQ_any
          refine TA_stepL [0] (by kernel_rfl) rfl ⟨?_, trivial⟩
          change TL _ _ _ _ _ _ _ _ _ _ _
          refine r1 ?_; apply TL_nil; apply TQ_any
          refine TA_stepL [3] (by kernel_rfl) rfl ⟨?_, trivial⟩
          change TL _ _ _ _ _ _ _ _ _ _ _
          (refine TL_callN rfl rfl rfl (fun w h => c46_ok S p hS none_ _ _ 0 (by omega) hok w (ha.mono h) (Sl.of_blk h mm (fun _ _ => rfl) ⟨[], encC_flat _ _⟩)) ?_; rintro ⟨bo, bs⟩ hbl); apply TL_nil; apply TQ_any
          refine TA_stepL [4] (by kernel_rfl) rfl ⟨?_, trivial⟩
          change TL _ _ _ _ _ _ _ _ _ _ _
          refine r1 ?_; apply TL_nil; apply TQ_any
          refine TA_stepL [5, 6] (by kernel_rfl) rfl ⟨?_, ?_, trivial⟩
          · change TL _ _ _ _ _ _ _ _ _ _ _
            refine r1 ?_; apply TL_nil; apply TQ_any
            refine TA_stepL [6, 7] (by kernel_rfl) rfl ⟨?_, ?_, trivial⟩
            · change TL _ _ _ _ _ _ _ _ _ _ _
              refine r1 ?_; apply TL_nil; apply TQ_any
              refine TA_stepL [7] (by kernel_rfl) rfl ⟨?_, trivial⟩
              change TL _ _ _ _ _ _ _ _ _ _ _
              refine r1 ?_; apply TL_nil; apply TQ_any
              refine TA_stepL [8] (by kernel_rfl) rfl ⟨?_, trivial⟩
              change TL _ _ _ _ _ _ _ _ _ _ _
              refine r1 ?_; apply TL_nil; apply TQ_any
              refine TA_done (by kernel_rfl) ?_
              exact TQ_mid (bo, bs) hbl sb (fun w h => h.sub (List.Sublist.cons_cons _ (List.Sublist.append_left (List.Sublist.cons _ (List.Sublist.refl _)) _)))
            · change TL _ _ _ _ _ _ _ _ _ _ _
              refine r1 ?_; apply TL_nil; apply TQ_any
              refine TA_stepL [6] (by kernel_rfl) rfl ⟨?_, trivial⟩
              change TL _ _ _ _ _ _ _ _ _ _ _
              refine r1 ?_; apply TL_nil; apply TQ_any
              refine TA_stepL [8] (by kernel_rfl) rfl ⟨?_, trivial⟩
              change TL _ _ _ _ _ _ _ _ _ _ _
              refine r1 ?_; apply TL_nil; apply TQ_any
              refine TA_done (by kernel_rfl) ?_
              exact TQ_mid (bo, bs) hbl sb (fun w h => h.sub (List.Sublist.cons_cons _ (List.Sublist.append_left (List.Sublist.cons _ (List.Sublist.refl _)) _)))
          · change TL _ _ _ _ _ _ _ _ _ _ _
            refine r1 ?_; apply TL_nil; apply TQ_any
            refine TA_stepL [5] (by kernel_rfl) rfl ⟨?_, trivial⟩
            change TL _ _ _ _ _ _ _ _ _ _ _
            refine r1 ?_; apply TL_nil; apply TQ_any
            refine TA_stepL [7] (by kernel_rfl) rfl ⟨?_, trivial⟩
            change TL _ _ _ _ _ _ _ _ _ _ _
            refine r1 ?_; apply TL_nil; apply TQ_any
            refine TA_stepL [8] (by kernel_rfl) rfl ⟨?_, trivial⟩
            change TL _ _ _ _ _ _ _ _ _ _ _
            refine r1 ?_; apply TL_nil; apply TQ_any
            refine TA_done (by kernel_rfl) ?_
            exact TQ_mid (bo, bs) hbl sb (fun w h => h.sub (List.Sublist.cons_cons _ (List.Sublist.append_left (List.Sublist.cons _ (List.Sublist.refl _)) _)))
    obtain ⟨bo, bs⟩ := q
    dsimp only at hbl ⊢
    obtain ⟨W, hW⟩ : ∃ W, W = S.pts.toNat + 1 := ⟨_, rfl⟩
    rw [← hW] at hbl ⊢
    have hbs : ∀ a, a < W → ∃ b, bs[a]? = some b := fun a ha => ⟨_, List.getElem?_eq_getElem (by omega)⟩
    have hTB := fun i (hi : i < S.pts.toNat) => tbl_B hS hok (i := i) (k := S.pts.toNat) (by omega) (by omega)
    obtain ⟨T, hT⟩ : ∃ T, T = tbl S := ⟨_, rfl⟩
    rw [← hT] at hTB ⊢
    obtain ⟨n, hn⟩ : ∃ n, n = S.pts.toNat := ⟨_, rfl⟩
    have hpn : S.pts = (n : Int) := by omega
    have hln : ∀ i, (htsL S i).length = i := fun i => by simp [htsL]
    repeat' (first | refine rn ?_ | (apply TL_box; exact rfl; exact rfl; exact rfl; intro _ _) | (apply TL_alloc; exact rfl; intro _ _) | (apply TL_buildSlice; exact rfl; exact rfl; exact rfl; exact rfl; exact rfl; intro _ _))
    refine TC_loop (σ := Nat × Option Addr × Nat × Hp) (fun q => q.1 ≤ n ∧ Row 36 2 encSp q.2.1 q.2.2.1 q.2.2.2 (htsL S q.1)) (fun q => [(1, .pointer (some ⟨b1, 0, none⟩)), (4, .slice (some ⟨bo, 0, none⟩) W W), (6, .slice q.2.1 (htsL S q.1).length q.2.2.1), (7, .int .i64 q.1)])
      (fun q => q.2.2.2 ++ ((b1, .cells (encSv S p) 26) :: (bo, .cells (ocells W bs 0) 46) :: rowsH 3 W T bs 0)) (fun q => n - q.1) (0, none, 0, []) ⟨Nat.zero_le _, Row.nil _ _ _⟩ sb (fun w h => h.perm (List.Perm.trans (List.Perm.swap _ _ _) (List.Perm.cons _ (List.perm_append_comm (l₁ := [_]))))) (fun q hq => ?_)
    obtain ⟨i, so, sc, ob⟩ := q
    obtain ⟨hi, hrow⟩ := hq
    dsimp only at hi hrow ⊢
    have hll := hln i
    repeat' (first | refine rn ?_ | (apply TL_box; exact rfl; exact rfl; exact rfl; intro _ _) | (apply TL_alloc; exact rfl; intro _ _) | (apply TL_buildSlice; exact rfl; exact rfl; exact rfl; exact rfl; exact rfl; intro _ _))
    refine TC_cond_dec rfl (fun g1 => ?_) (fun g1 => ?_)
    · have hlt : i < n := by omega
      have hB := hTB i (by omega)
      rw [← hn] at hB
      have hs1 : htsL S (i + 1) = htsL S i ++ [fallR T i n] := by rw [hT, hn]; simp [htsL, List.range_succ]
      obtain ⟨bi, hbi⟩ := hbs i (by omega)
      obtain ⟨bn, hbn⟩ := hbs n (by omega)
      repeat' (first | refine rn ?_ | (apply TL_box; exact rfl; exact rfl; exact rfl; intro _ _) | (apply TL_alloc; exact rfl; intro _ _) | (apply TL_buildSlice; exact rfl; exact rfl; exact rfl; exact rfl; exact rfl; intro _ _))
      apply TC_draw 20; kernel_rfl; exact Try.mixed
      · iterate 3 (refine' pv ?_; rotate_left)
        (refine' PG.val rfl rfl (by intro _X; refine TL_index (i) rfl rfl rfl (fun w h => ocSl (m := 0) (bs := bs) h (by repeat (first | exact List.mem_cons_self | apply List.mem_cons_of_mem | apply List.mem_append_right))) rfl (by rw [oc_len]; omega) (by rw [oc_len]; omega) ?_; exact qe) ?_; rotate_left)
        (refine' PG.val rfl rfl (by intro _X; refine TL_load_el1 rfl rfl (fun w h => ocSl (m := 0) (bs := bs) h (by repeat (first | exact List.mem_cons_self | apply List.mem_cons_of_mem | apply List.mem_append_right))) (oc_get hbi) rfl ?_; exact qe) ?_; rotate_left)
        iterate 2 (refine' pv ?_; rotate_left)
        (refine' PG.val rfl rfl (by intro _X; refine TL_index (n) rfl rfl rfl (fun w h => rowSl (i := i) (T := T) h (by repeat (first | exact rowsH_mem0 hbi | apply List.mem_cons_of_mem | apply List.mem_append_right))) hpn (by rw [rowL_len]; omega) (by rw [rowL_len]; exact Nat.le_refl _) ?_; exact qe) ?_; rotate_left)
        (refine' PG.val rfl rfl (by intro _X; refine TL_load_el1 (u := T (i) (n)) rfl rfl (fun w h => rowSl (i := i) (T := T) h (by repeat (first | exact rowsH_mem0 hbi | apply List.mem_cons_of_mem | apply List.mem_append_right))) (rowL_get (by omega)) rfl ?_; exact qe) ?_; rotate_left)
        iterate 4 (refine' pv ?_; rotate_left)
        (refine' PG.val rfl rfl (by intro _X; refine TL_index (n) rfl rfl rfl (fun w h => ocSl (m := 0) (bs := bs) h (by repeat (first | exact List.mem_cons_self | apply List.mem_cons_of_mem | apply List.mem_append_right))) hpn (by rw [oc_len]; omega) (by rw [oc_len]; omega) ?_; exact qe) ?_; rotate_left)
        (refine' PG.val rfl rfl (by intro _X; refine TL_load_el1 rfl rfl (fun w h => ocSl (m := 0) (bs := bs) h (by repeat (first | exact List.mem_cons_self | apply List.mem_cons_of_mem | apply List.mem_append_right))) (oc_get hbn) rfl ?_; exact qe) ?_; rotate_left)
        (refine' pv ?_; rotate_left)
        (refine' PG.val rfl rfl (by intro _X; refine TL_index (i) rfl rfl rfl (fun w h => rowSl (i := n) (T := T) h (by repeat (first | exact rowsH_mem0 hbn | apply List.mem_cons_of_mem | apply List.mem_append_right))) rfl (by rw [rowL_len]; omega) (by rw [rowL_len]; exact Nat.le_refl _) ?_; exact qe) ?_; rotate_left)
        (refine' PG.val rfl rfl (by intro _X; refine TL_load_el1 (u := T (n) (i)) rfl rfl (fun w h => rowSl (i := n) (T := T) h (by repeat (first | exact rowsH_mem0 hbn | apply List.mem_cons_of_mem | apply List.mem_append_right))) (rowL_get (by omega)) rfl ?_; exact qe) ?_; rotate_left)
        (refine' pv ?_; rotate_left)
        (refine' PG.rel ((fun v h => ∃ b, v = .slice (some ⟨b, 0, none⟩) 1 1 ∧ h = [(b, .cells (encSp (fallR T i n)) 36)])) rfl rfl (by intro _X; apply TL_buildSlice; exact rfl; exact rfl; exact rfl; exact rfl; exact rfl; intro b _; exact TL_nil (TQ_QR (h := [(b, _)]) rfl ⟨b, rfl, rfl⟩ (fun _ h => h))) ?_; rotate_left)
        exact PG.nil
      rintro _ _ ⟨b45, rfl, rfl⟩
      change TL _ _ _ _ _ _ _ _ _ _ _
      refine TL_append (l := htsL S i) (l2 := [fallR T i n]) (enc := encSp) (G := _) rfl (by rfl) rfl rfl rfl rfl rfl hrow (pm_cons pm_here) (fun w h => Sl.of_blk h mm (fun _ _ => rfl) ⟨[], by rfl⟩) (fun u _ => rfl) (by simp only [List.length_singleton]; omega) (by simp only [List.length_singleton, maxLen]; omega) (fun so' sc' ob' hrow' => ?_)
      rw [← hs1] at hrow' ⊢
      repeat' (first | refine rn ?_ | (apply TL_box; exact rfl; exact rfl; exact rfl; intro _ _) | (apply TL_alloc; exact rfl; intro _ _) | (apply TL_buildSlice; exact rfl; exact rfl; exact rfl; exact rfl; exact rfl; intro _ _))
      refine TQ_round (i + 1, so', sc', ob') ⟨hlt, hrow'⟩ (by dsimp only; omega) sb (fun w h => h.sub (List.Sublist.append_left (List.Sublist.cons _ (List.Sublist.refl _)) _))
    · have hi2 : n = i := by omega
      subst hi2
      rw [← hn]
      repeat' (first | refine rn ?_ | (apply TL_box; exact rfl; exact rfl; exact rfl; intro _ _) | (apply TL_alloc; exact rfl; intro _ _) | (apply TL_buildSlice; exact rfl; exact rfl; exact rfl; exact rfl; exact rfl; intro _ _))
      exact TQ_ret2 Try.results17 (RV.tmp rfl) (RV.tmp rfl) (fun w' hs => ⟨(so, sc, ob), hrow, rfl, hs.sub (List.sublist_append_left _ _)⟩)
end Go.Proofs.Ytoolblbdmmiahaa
