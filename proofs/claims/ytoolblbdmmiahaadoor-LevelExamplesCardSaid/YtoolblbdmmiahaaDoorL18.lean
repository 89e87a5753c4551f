/- Walks: Runs, of the program and of the reference. -/
import Derived.Test.YtoolblbdmmiahaaDoorL17
import Derived.Test.YtoolblbdmmiahaaDoorEngW
namespace Go.Proofs.YtoolblbdmmiahaaDoor
open Go Go.Eng Go.RowKit Go.Proofs
set_option maxHeartbeats 4000000
set_option maxRecDepth 10000
attribute [local irreducible] TL TC TQ

def runsK (T : Tb) (l : List Int) (k : Nat) : List Int := (List.range k).map (fun i => runR T (l.getD i 0) (l.getD (i + 1) 0))
theorem runsK_succ (T : Tb) (l : List Int) (k : Nat) : runsK T l (k + 1) = runsK T l k ++ [runR T (l.getD k 0) (l.getD (k + 1) 0)] := by simp [runsK, List.range_succ]
theorem runsK_len (T : Tb) (l : List Int) (k : Nat) : (runsK T l k).length = k := by simp [runsK]
theorem runs_inv {S : Sv} (h : ¬ OkSv S) (l : List Int) : runsF S l = ([], 10) := if_pos h
theorem runs_len {S : Sv} (h : OkSv S) {l : List Int} (h2 : 20 < l.length) : runsF S l = ([], 4) := by unfold runsF; rw [if_neg (not_not_intro h), if_pos h2]
theorem runs_bad {S : Sv} (h : OkSv S) {l : List Int} (h2 : ¬ 20 < l.length) (h3 : ¬ ∀ x ∈ l, In x 0 (S.pts - 1)) : runsF S l = ([], 2) := by unfold runsF; rw [if_neg (not_not_intro h), if_neg h2, if_pos h3]
theorem runs_no {S : Sv} (h : OkSv S) {l : List Int} (h2 : ¬ 20 < l.length) (h3 : ∀ x ∈ l, In x 0 (S.pts - 1)) (h4 : okS S = false) : runsF S l = ([], 11) := by unfold runsF; rw [if_neg (not_not_intro h), if_neg h2, if_neg (not_not_intro h3), if_neg (by rw [h4]; simp)]
theorem runs_ok {S : Sv} (h : OkSv S) {l : List Int} (h2 : ¬ 20 < l.length) (h3 : ∀ x ∈ l, In x 0 (S.pts - 1)) (h4 : okS S = true) : runsF S l = (runsK (tbl S) l (l.length - 1), 0) := by unfold runsF; rw [if_neg (not_not_intro h), if_neg h2, if_neg (not_not_intro h3), if_pos h4]; rfl
theorem getD_of {l : List Int} {i : Nat} (h : i < l.length) : l[i]? = some (l.getD i 0) := by
  rw [List.getD_eq_getElem?_getD, List.getElem?_eq_getElem h]; rfl
theorem c33 (S : Sv) (p : Pl) (l : List Int) (ao : Option Addr) (c : Nat) (hl : l.length ≤ 1000000) (h1 : S.shots.length ≤ 1000000) (h2 : S.marks.length ≤ 1000000) (h3 : S.thr.length ≤ 1000000) (w : World) (ha : SvAt w S p) (hb : Sl w 1 encI ao l) :
    Calls Tryd.prog 14 #[.agg (encSv S p).toArray, .slice ao l.length c] w (RetP w.heap.size w (fun q : Option Addr × Nat × Hp => .tuple #[.slice q.1 (runsF S l).1.length q.2.1, .int .i64 (runsF S l).2]) (fun q => q.2.2) (fun q => Row 5 1 encU8 q.1 q.2.1 q.2.2 (runsF S l).1)) := by
  refine enter (args := [.agg (encSv S p).toArray, .slice ao l.length c]) Tryd.func14 rfl Tryd.ntmps14 rfl (SH.refl _) ?_
  repeat' (first | refine rn ?_ | (apply TL_box; exact rfl; exact rfl; exact rfl; intro _ _) | (apply TL_alloc; exact rfl; intro _ _) | (apply TL_buildSlice; exact rfl; exact rfl; exact rfl; exact rfl; exact rfl; intro _ _))
  rename_i b2 _
  by_cases hS : OkSv S
  rotate_left
  · refine TL_callV rfl rfl rfl (fun w hh => c44_no S p h1 h2 h3 w (ha.mono hh) (fun h => hS h.1)) ?_
    rw [runs_inv hS, if_pos hS]
    repeat' (first | refine rn ?_ | (apply TL_box; exact rfl; exact rfl; exact rfl; intro _ _) | (apply TL_alloc; exact rfl; intro _ _) | (apply TL_buildSlice; exact rfl; exact rfl; exact rfl; exact rfl; exact rfl; intro _ _))
    exact TQ_ret2 Tryd.results14 (RV.tmp rfl) (RV.tmp rfl) (fun w' hs => ⟨(none, 0, []), Row.nil _ _ _, rfl, hs.sub (List.nil_sublist _)⟩)
  have hp := hS.1
  simp only [In] at hp
  cases hok : okS S with
  | false =>
    refine TL_callV rfl rfl rfl (fun w hh => c44_no S p h1 h2 h3 w (ha.mono hh) (fun h => by rw [hok] at h; cases h.2)) ?_
    rw [if_neg (not_not_intro hS)]
    repeat' (first | refine rn ?_ | (apply TL_box; exact rfl; exact rfl; exact rfl; intro _ _) | (apply TL_alloc; exact rfl; intro _ _) | (apply TL_buildSlice; exact rfl; exact rfl; exact rfl; exact rfl; exact rfl; intro _ _))
    refine TC_cond_dec rfl (fun g1 => ?_) (fun g1 => ?_)
    · rw [runs_len hS (by omega)]
      repeat' (first | refine rn ?_ | (apply TL_box; exact rfl; exact rfl; exact rfl; intro _ _) | (apply TL_alloc; exact rfl; intro _ _) | (apply TL_buildSlice; exact rfl; exact rfl; exact rfl; exact rfl; exact rfl; intro _ _))
      exact TQ_ret2 Tryd.results14 (RV.tmp rfl) (RV.tmp rfl) (fun w' hs => ⟨(none, 0, []), Row.nil _ _ _, rfl, hs.sub (List.nil_sublist _)⟩)
    repeat' (first | refine rn ?_ | (apply TL_box; exact rfl; exact rfl; exact rfl; intro _ _) | (apply TL_alloc; exact rfl; intro _ _) | (apply TL_buildSlice; exact rfl; exact rfl; exact rfl; exact rfl; exact rfl; intro _ _))
    refine TL_callV rfl rfl rfl (fun w h => c48 0 (S.pts - 1) l _ c (by omega) w (h.sl hb)) ?_
    by_cases hall : ∀ x ∈ l, In x 0 (S.pts - 1)
    · rw [runs_no hS (by omega) hall hok, decide_eq_true hall]
      repeat' (first | refine rn ?_ | (apply TL_box; exact rfl; exact rfl; exact rfl; intro _ _) | (apply TL_alloc; exact rfl; intro _ _) | (apply TL_buildSlice; exact rfl; exact rfl; exact rfl; exact rfl; exact rfl; intro _ _))
      exact TQ_ret2 Tryd.results14 (RV.tmp rfl) (RV.tmp rfl) (fun w' hs => ⟨(none, 0, []), Row.nil _ _ _, rfl, hs.sub (List.nil_sublist _)⟩)
    · rw [runs_bad hS (by omega) hall, decide_eq_false hall]
      repeat' (first | refine rn ?_ | (apply TL_box; exact rfl; exact rfl; exact rfl; intro _ _) | (apply TL_alloc; exact rfl; intro _ _) | (apply TL_buildSlice; exact rfl; exact rfl; exact rfl; exact rfl; exact rfl; intro _ _))
      exact TQ_ret2 Tryd.results14 (RV.tmp rfl) (RV.tmp rfl) (fun w' hs => ⟨(none, 0, []), Row.nil _ _ _, rfl, hs.sub (List.nil_sublist _)⟩)
  | true =>
  refine TL_callN rfl rfl rfl (fun w h => c44_ok S p hS hok w (ha.mono h)) ?_
  rintro bt -
  repeat' (first | refine rn ?_ | (apply TL_box; exact rfl; exact rfl; exact rfl; intro _ _) | (apply TL_alloc; exact rfl; intro _ _) | (apply TL_buildSlice; exact rfl; exact rfl; exact rfl; exact rfl; exact rfl; intro _ _))
  refine TC_cond_dec rfl (fun g1 => ?_) (fun g1 => ?_)
  · rw [runs_len hS (by omega)]
    repeat' (first | refine rn ?_ | (apply TL_box; exact rfl; exact rfl; exact rfl; intro _ _) | (apply TL_alloc; exact rfl; intro _ _) | (apply TL_buildSlice; exact rfl; exact rfl; exact rfl; exact rfl; exact rfl; intro _ _))
    exact TQ_ret2 Tryd.results14 (RV.tmp rfl) (RV.tmp rfl) (fun w' hs => ⟨(none, 0, []), Row.nil _ _ _, rfl, hs.sub (List.nil_sublist _)⟩)
  repeat' (first | refine rn ?_ | (apply TL_box; exact rfl; exact rfl; exact rfl; intro _ _) | (apply TL_alloc; exact rfl; intro _ _) | (apply TL_buildSlice; exact rfl; exact rfl; exact rfl; exact rfl; exact rfl; intro _ _))
  refine TL_callV rfl rfl rfl (fun w h => c48 0 (S.pts - 1) l _ c (by omega) w (h.sl hb)) ?_
  by_cases hall : ∀ x ∈ l, In x 0 (S.pts - 1)
  rotate_left
  · rw [runs_bad hS (by omega) hall, decide_eq_false hall]
    repeat' (first | refine rn ?_ | (apply TL_box; exact rfl; exact rfl; exact rfl; intro _ _) | (apply TL_alloc; exact rfl; intro _ _) | (apply TL_buildSlice; exact rfl; exact rfl; exact rfl; exact rfl; exact rfl; intro _ _))
    exact TQ_ret2 Tryd.results14 (RV.tmp rfl) (RV.tmp rfl) (fun w' hs => ⟨(none, 0, []), Row.nil _ _ _, rfl, hs.sub (List.nil_sublist _)⟩)
  rw [runs_ok hS (by omega) hall hok, decide_eq_true hall]
  repeat' (first | refine rn ?_ | (apply TL_box; exact rfl; exact rfl; exact rfl; intro _ _) | (apply TL_alloc; exact rfl; intro _ _) | (apply TL_buildSlice; exact rfl; exact rfl; exact rfl; exact rfl; exact rfl; intro _ _))
  refine TC_loop (σ := Nat × Option Addr × Nat × Hp) (fun q => q.1 ≤ l.length - 1 ∧ Row 5 1 encU8 q.2.1 q.2.2.1 q.2.2.2 (runsK (tbl S) l q.1)) (fun q => [(1, .slice ao l.length c), (2, .pointer (some ⟨b2, 0, none⟩)), (6, .pointer (some ⟨bt, 0, none⟩)), (8, .slice q.2.1 (runsK (tbl S) l q.1).length q.2.2.1), (9, .int .i64 ((q.1 + 1 : Nat) : Int))])
    (fun q => q.2.2.2 ++ ([(bt, .cells (encT 21 441 (tbl S)) 76), (b2, .cells (encSv S p) 32)] : Hp)) (fun q => l.length - q.1) (0, none, 0, []) ⟨Nat.zero_le _, Row.nil _ _ _⟩ sb (fun w h => h) (fun q hq => ?_)
  obtain ⟨k, so, sc, ob⟩ := q
  obtain ⟨hk, hrow⟩ := hq
  dsimp only at hk hrow ⊢
  have hll := runsK_len (tbl S) l k
  repeat' (first | refine rn ?_ | (apply TL_box; exact rfl; exact rfl; exact rfl; intro _ _) | (apply TL_alloc; exact rfl; intro _ _) | (apply TL_buildSlice; exact rfl; exact rfl; exact rfl; exact rfl; exact rfl; intro _ _))
  refine TC_cond_dec rfl (fun g2 => ?_) (fun g2 => ?_)
  · skip
    have hlt : k + 1 < l.length := by omega
    have ia := hall (l.getD k 0) (List.mem_of_getElem? (getD_of (by omega)))
    have ib := hall (l.getD (k + 1) 0) (List.mem_of_getElem? (getD_of hlt))
    simp only [In] at ia ib
    have hT1 := tbl_B hS hok (i := (l.getD k 0).toNat) (k := (l.getD (k + 1) 0).toNat) (by omega) (by omega)
    have hs1 := runsK_succ (tbl S) l k
    repeat' (first | refine rn ?_ | (apply TL_box; exact rfl; exact rfl; exact rfl; intro _ _) | (apply TL_alloc; exact rfl; intro _ _) | (apply TL_buildSlice; exact rfl; exact rfl; exact rfl; exact rfl; exact rfl; intro _ _))
    apply TC_draw 12; kernel_rfl; exact Tryd.mixed
    · iterate 4 (refine' pv ?_; rotate_left)
      (refine' PG.val rfl rfl (by intro _X; refine TL_index k rfl rfl rfl (fun w h => h.sl hb) (by omega) (by omega) (Nat.le_refl _) ?_; exact qe) ?_; rotate_left)
      (refine' PG.val rfl rfl (by intro _X; refine TL_load_el1 (u := l.getD k 0) rfl rfl (fun w h => h.sl hb) (getD_of (by omega)) rfl ?_; exact qe) ?_; rotate_left)
      iterate 2 (refine' pv ?_; rotate_left)
      (refine' PG.val rfl rfl (by intro _X; refine TL_index (k + 1) rfl rfl rfl (fun w h => h.sl hb) (by omega) (by omega) (Nat.le_refl _) ?_; exact qe) ?_; rotate_left)
      (refine' PG.val rfl rfl (by intro _X; refine TL_load_el1 (u := l.getD (k + 1) 0) rfl rfl (fun w h => h.sl hb) (getD_of hlt) rfl ?_; exact qe) ?_; rotate_left)
      (refine' PG.val rfl rfl (by intro _X; refine TL_call rfl rfl rfl _ _ _ (fun w h => c45 (tbl S) (l.getD k 0) (l.getD (k + 1) 0) (by omega) (by omega) (by omega) bt _ mm w h) (fun _ _ => ?_); exact qe) ?_; rotate_left)
      (refine' pn ?_; rotate_left)
      exact PG.nil
    rintro _ _ ⟨b11, _, rfl, rfl⟩
    change TL _ _ _ _ _ _ _ _ _ _ _
    repeat' (first | refine rn ?_ | (apply TL_box; exact rfl; exact rfl; exact rfl; intro _ _) | (apply TL_alloc; exact rfl; intro _ _) | (apply TL_buildSlice; exact rfl; exact rfl; exact rfl; exact rfl; exact rfl; intro _ _))
    refine TC_cond_dec rfl (fun g3 => ?_) (fun g3 => ?_)
    · skip
      have er : runR (tbl S) (l.getD k 0) (l.getD (k + 1) 0) = 2 := by unfold runR; first | (rw [if_pos (by omega)]) | (rw [if_neg (by omega), if_pos (by omega)]) | (rw [if_neg (by omega), if_neg (by omega)])
      rw [er] at hs1
      repeat' (first | refine rn ?_ | (apply TL_box; exact rfl; exact rfl; exact rfl; intro _ _) | (apply TL_alloc; exact rfl; intro _ _) | (apply TL_buildSlice; exact rfl; exact rfl; exact rfl; exact rfl; exact rfl; intro _ _))
      refine TL_append (l := runsK (tbl S) l k) (l2 := [(2 : Int)]) (enc := encU8) (G := _) rfl (by rfl) rfl rfl rfl rfl rfl hrow (pm_cons (pm_cons pm_here)) (fun w h => Sl.of_blk h mm (fun _ _ => rfl) ⟨[], by rfl⟩) (fun u _ => rfl) (by simp only [List.length_singleton]; omega) (by simp only [List.length_singleton, maxLen]; omega) (fun so' sc' ob' hrow' => ?_)
      rw [← hs1] at hrow' ⊢
      repeat' (first | refine rn ?_ | (apply TL_box; exact rfl; exact rfl; exact rfl; intro _ _) | (apply TL_alloc; exact rfl; intro _ _) | (apply TL_buildSlice; exact rfl; exact rfl; exact rfl; exact rfl; exact rfl; intro _ _))
      refine TQ_round (k + 1, so', sc', ob') ⟨by dsimp only; omega, hrow'⟩ (by dsimp only; omega) sb (fun w h => h.sub (List.Sublist.append_left (List.Sublist.cons _ (List.Sublist.cons _ (List.Sublist.refl _))) _))
    · repeat' (first | refine rn ?_ | (apply TL_box; exact rfl; exact rfl; exact rfl; intro _ _) | (apply TL_alloc; exact rfl; intro _ _) | (apply TL_buildSlice; exact rfl; exact rfl; exact rfl; exact rfl; exact rfl; intro _ _))
      refine TC_cond_dec rfl (fun g4 => ?_) (fun g4 => ?_)
      · skip
        have er : runR (tbl S) (l.getD k 0) (l.getD (k + 1) 0) = 0 := by unfold runR; first | (rw [if_pos (by omega)]) | (rw [if_neg (by omega), if_pos (by omega)]) | (rw [if_neg (by omega), if_neg (by omega)])
        rw [er] at hs1
        repeat' (first | refine rn ?_ | (apply TL_box; exact rfl; exact rfl; exact rfl; intro _ _) | (apply TL_alloc; exact rfl; intro _ _) | (apply TL_buildSlice; exact rfl; exact rfl; exact rfl; exact rfl; exact rfl; intro _ _))
        refine TL_append (l := runsK (tbl S) l k) (l2 := [(0 : Int)]) (enc := encU8) (G := _) rfl (by rfl) rfl rfl rfl rfl rfl hrow (pm_cons (pm_cons pm_here)) (fun w h => Sl.of_blk h mm (fun _ _ => rfl) ⟨[], by rfl⟩) (fun u _ => rfl) (by simp only [List.length_singleton]; omega) (by simp only [List.length_singleton, maxLen]; omega) (fun so' sc' ob' hrow' => ?_)
        rw [← hs1] at hrow' ⊢
        repeat' (first | refine rn ?_ | (apply TL_box; exact rfl; exact rfl; exact rfl; intro _ _) | (apply TL_alloc; exact rfl; intro _ _) | (apply TL_buildSlice; exact rfl; exact rfl; exact rfl; exact rfl; exact rfl; intro _ _))
        refine TQ_round (k + 1, so', sc', ob') ⟨by dsimp only; omega, hrow'⟩ (by dsimp only; omega) sb (fun w h => h.sub (List.Sublist.append_left (List.Sublist.cons _ (List.Sublist.cons _ (List.Sublist.refl _))) _))
      · skip
        have er : runR (tbl S) (l.getD k 0) (l.getD (k + 1) 0) = 1 := by unfold runR; first | (rw [if_pos (by omega)]) | (rw [if_neg (by omega), if_pos (by omega)]) | (rw [if_neg (by omega), if_neg (by omega)])
        rw [er] at hs1
        repeat' (first | refine rn ?_ | (apply TL_box; exact rfl; exact rfl; exact rfl; intro _ _) | (apply TL_alloc; exact rfl; intro _ _) | (apply TL_buildSlice; exact rfl; exact rfl; exact rfl; exact rfl; exact rfl; intro _ _))
        refine TL_append (l := runsK (tbl S) l k) (l2 := [(1 : Int)]) (enc := encU8) (G := _) rfl (by rfl) rfl rfl rfl rfl rfl hrow (pm_cons (pm_cons pm_here)) (fun w h => Sl.of_blk h mm (fun _ _ => rfl) ⟨[], by rfl⟩) (fun u _ => rfl) (by simp only [List.length_singleton]; omega) (by simp only [List.length_singleton, maxLen]; omega) (fun so' sc' ob' hrow' => ?_)
        rw [← hs1] at hrow' ⊢
        repeat' (first | refine rn ?_ | (apply TL_box; exact rfl; exact rfl; exact rfl; intro _ _) | (apply TL_alloc; exact rfl; intro _ _) | (apply TL_buildSlice; exact rfl; exact rfl; exact rfl; exact rfl; exact rfl; intro _ _))
        refine TQ_round (k + 1, so', sc', ob') ⟨by dsimp only; omega, hrow'⟩ (by dsimp only; omega) sb (fun w h => h.sub (List.Sublist.append_left (List.Sublist.cons _ (List.Sublist.cons _ (List.Sublist.refl _))) _))
  have hk2 : l.length - 1 = k := by omega
  rw [hk2]
  repeat' (first | refine rn ?_ | (apply TL_box; exact rfl; exact rfl; exact rfl; intro _ _) | (apply TL_alloc; exact rfl; intro _ _) | (apply TL_buildSlice; exact rfl; exact rfl; exact rfl; exact rfl; exact rfl; intro _ _))
  exact TQ_ret2 Tryd.results14 (RV.tmp rfl) (RV.tmp rfl) (fun w' hs => ⟨(so, sc, ob), hrow, rfl, hs.sub (List.sublist_append_left _ _)⟩)
end Go.Proofs.YtoolblbdmmiahaaDoor
