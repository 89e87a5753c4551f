/- The walk of TopWatch. -/
import Derived.Test.YtkpkebpofpcmaaaGreatDoorD22
namespace Go.Proofs.YtkpkebpofpcmaaaGreatDoor
open Go Go.Eng Go.RowKit Go.Proofs
set_option maxHeartbeats 4000000
set_option maxRecDepth 10000
attribute [local irreducible] TL TC TQ

theorem heirs_nil {w : World} {N : List Int} {b : Nat} (hr : RiseN N) (hn : N.length ≤ 20) (hl : lastN N ≤ 1440) {ao : Option Addr} (hs : Sl w 9 encDd ao (dsOf N)) : DdsAt w ao (dsOf N) := by
  obtain ⟨h1, h2, h3, h4, h5⟩ := dsOf_facts b hr hn hl
  refine ⟨hs, fun x hx => ?_, by unfold Small; omega, fun x hx => ?_⟩
  · rw [(h5 x hx).2.2.1]; exact Sl.nil _ _ _ _
  · rw [(h5 x hx).2.2.1]; unfold Small; simp
/-- The minutes lie in what is told. -/
def Fit (m : List Sp) (N : List Int) : Prop := ∀ (j : Nat) x, N[j]? = some x → ∃ s, m[j]? = some s ∧ s.1 ≤ x ∧ x ≤ s.2 ∧ s.2 ≤ 1440
theorem Fit.last {m : List Sp} {N : List Int} (h : Fit m N) : lastN N ≤ 1440 := by
  by_cases hN : N = []
  · subst hN; decide
  · obtain ⟨s, _, _, h2, h3⟩ := h _ _ (lastN_get hN)
    omega
theorem Fit.snoc {m : List Sp} {N : List Int} (h : Fit m N) {x : Int} {s : Sp} (hs : m[N.length]? = some s) (h1 : s.1 ≤ x) (h2 : x ≤ s.2) (h3 : s.2 ≤ 1440) : Fit m (N ++ [x]) := fun j y hy => by
  rcases Nat.lt_or_ge j N.length with hj | hj
  · rw [List.getElem?_append_left hj] at hy; exact h j y hy
  · rw [List.getElem?_append_right hj] at hy
    have : j - N.length = 0 := by
      have := (List.getElem?_eq_some_iff.1 hy).1
      simp at this; omega
    rw [this] at hy
    simp at hy; subst hy
    have : j = N.length := by omega
    subst this
    exact ⟨s, hs, h1, h2, h3⟩
theorem c3 (k : Ck) (day : Int) (l : List Cg) (ao : Option Addr) (cc : Nat) (by_ : List Int) (bo : Option Addr) (bc : Nat) (minute : Int) (w : World) (hkm : Sl w 2 encSp k.mao k.marks) (hks : Sl w 4 encSt k.sao k.stars) (hl : CgAt w ao l) (hv : Nv w) (hb : Sl w 1 encU bo by_) (hby : ∀ x ∈ by_, 0 ≤ x ∧ x ≤ 4294967295) (hmi : 0 ≤ minute ∧ minute ≤ 65535) :
    Calls Tryz.prog 3 #[.agg (encCk k).toArray, .int .i64 day, .slice ao l.length cc, .slice bo by_.length bc, .int .u16 minute] w (RetV w (.bool true)) := by
  refine enter (args := [.agg (encCk k).toArray, .int .i64 day, .slice ao l.length cc, .slice bo by_.length bc, .int .u16 minute]) Tryz.func3 rfl Tryz.ntmps3 rfl (SH.refl _) ?_
  repeat' (first | refine rn ?_ | (apply TL_box; exact rfl; exact rfl; exact rfl; intro _ _) | (apply TL_alloc; exact rfl; intro _ _) | (apply TL_buildSlice; exact rfl; exact rfl; exact rfl; exact rfl; exact rfl; intro _ _))
  rename_i b5 _
  refine TL_callV rfl rfl rfl (fun w h => c7 w) ?_
  repeat' (first | refine rn ?_ | (apply TL_box; exact rfl; exact rfl; exact rfl; intro _ _) | (apply TL_alloc; exact rfl; intro _ _) | (apply TL_buildSlice; exact rfl; exact rfl; exact rfl; exact rfl; exact rfl; intro _ _))
  refine TL_callV rfl rfl rfl (fun w h => c8 k w) ?_
  repeat' (first | refine rn ?_ | (apply TL_box; exact rfl; exact rfl; exact rfl; intro _ _) | (apply TL_alloc; exact rfl; intro _ _) | (apply TL_buildSlice; exact rfl; exact rfl; exact rfl; exact rfl; exact rfl; intro _ _))
  refine TL_gsplit_dec rfl rfl (fun g1 => ?_) (fun g1 => ?_)
  · repeat' (first | refine rn ?_ | (apply TL_box; exact rfl; exact rfl; exact rfl; intro _ _) | (apply TL_alloc; exact rfl; intro _ _) | (apply TL_buildSlice; exact rfl; exact rfl; exact rfl; exact rfl; exact rfl; intro _ _))
    exact TQ_ret1 Tryz.results3 (RV.tmp rfl) (fun w' hs => ⟨rfl, hs.below⟩)
  repeat' (first | refine rn ?_ | (apply TL_box; exact rfl; exact rfl; exact rfl; intro _ _) | (apply TL_alloc; exact rfl; intro _ _) | (apply TL_buildSlice; exact rfl; exact rfl; exact rfl; exact rfl; exact rfl; intro _ _))
  refine TL_callV rfl rfl rfl (fun w h => c9 l ao cc w (h.sl hl.s)) ?_
  repeat' (first | refine rn ?_ | (apply TL_box; exact rfl; exact rfl; exact rfl; intro _ _) | (apply TL_alloc; exact rfl; intro _ _) | (apply TL_buildSlice; exact rfl; exact rfl; exact rfl; exact rfl; exact rfl; intro _ _))
  refine TL_gsplit_dec rfl rfl (fun g2 => ?_) (fun g2 => ?_)
  · repeat' (first | refine rn ?_ | (apply TL_box; exact rfl; exact rfl; exact rfl; intro _ _) | (apply TL_alloc; exact rfl; intro _ _) | (apply TL_buildSlice; exact rfl; exact rfl; exact rfl; exact rfl; exact rfl; intro _ _))
    exact TQ_ret1 Tryz.results3 (RV.tmp rfl) (fun w' hs => ⟨rfl, hs.below⟩)
  have hk : CkAt w k := ⟨hkm, hks, by unfold Small; unfold greatC at g1; omega, by unfold Small; unfold greatC at g1; omega⟩
  have hl30 : l.length ≤ 1000000 := by unfold greatN at g2; omega
  have ht : ∀ c ∈ l, c.told.length ≤ 1000000 := fun c hc => by
    refine Classical.byContradiction fun h => g2 (.inr ⟨c, hc, by omega⟩)
  repeat' (first | refine rn ?_ | (apply TL_box; exact rfl; exact rfl; exact rfl; intro _ _) | (apply TL_alloc; exact rfl; intro _ _) | (apply TL_buildSlice; exact rfl; exact rfl; exact rfl; exact rfl; exact rfl; intro _ _))
  refine TL_callN rfl rfl rfl (fun w h => c10 k day l ao cc hl30 ht w (hk.mono h.below) (hl.mono h.below) (hv.mono h.below)) ?_
  rintro ⟨m, mo, mc, mob, mat, me⟩ ⟨hmr, hnr⟩
  have hml := hnr.len
  dsimp only at hmr hml ⊢
  repeat' (first | refine rn ?_ | (apply TL_box; exact rfl; exact rfl; exact rfl; intro _ _) | (apply TL_alloc; exact rfl; intro _ _) | (apply TL_buildSlice; exact rfl; exact rfl; exact rfl; exact rfl; exact rfl; intro _ _))
  refine TL_gsplit_dec rfl rfl (fun g3 => ?_) (fun g3 => ?_)
  · repeat' (first | refine rn ?_ | (apply TL_box; exact rfl; exact rfl; exact rfl; intro _ _) | (apply TL_alloc; exact rfl; intro _ _) | (apply TL_buildSlice; exact rfl; exact rfl; exact rfl; exact rfl; exact rfl; intro _ _))
    exact TQ_ret1 Tryz.results3 (RV.tmp rfl) (fun w' hs => ⟨rfl, hs.below⟩)
  repeat' (first | refine rn ?_ | (apply TL_box; exact rfl; exact rfl; exact rfl; intro _ _) | (apply TL_alloc; exact rfl; intro _ _) | (apply TL_buildSlice; exact rfl; exact rfl; exact rfl; exact rfl; exact rfl; intro _ _))
  refine TC_cond_dec rfl (fun g4 => ?_) (fun g4 => ?_)
  · repeat' (first | refine rn ?_ | (apply TL_box; exact rfl; exact rfl; exact rfl; intro _ _) | (apply TL_alloc; exact rfl; intro _ _) | (apply TL_buildSlice; exact rfl; exact rfl; exact rfl; exact rfl; exact rfl; intro _ _))
    exact TQ_ret1 Tryz.results3 (RV.tmp rfl) (fun w' hs => ⟨rfl, hs.below⟩)
  have hm2 : 2 ≤ m.length := by omega
  repeat' (first | refine rn ?_ | (apply TL_box; exact rfl; exact rfl; exact rfl; intro _ _) | (apply TL_alloc; exact rfl; intro _ _) | (apply TL_buildSlice; exact rfl; exact rfl; exact rfl; exact rfl; exact rfl; intro _ _))
  rename_i b56 _ b15 _
  refine TC_loop (σ := List Int × Option Addr × Nat × Hp) (fun q => q.1.length ≤ m.length ∧ RiseN q.1 ∧ Fit m q.1 ∧ Row 50 9 encDd q.2.1 q.2.2.1 q.2.2.2 (dsOf q.1)) (fun q => [(3, .slice bo by_.length bc), (4, .int .u16 minute), (11, .bool true), (12, .slice mo m.length mc), (15, .pointer (some ⟨b15, 0, none⟩)), (16, .slice q.2.1 (dsOf q.1).length q.2.2.1), (17, .int .i64 (lastN q.1)), (58, .slice mo m.length mc), (59, .int .i64 m.length), (60, .int .i64 q.1.length)])
    (fun q => (b15, .cells (encRo (roW b56)) 43) :: (b56, .cells (encHo ⟨50, (0, 1440)⟩) 40) :: (q.2.2.2 ++ mob)) (fun q => m.length - q.1.length) ([], none, 0, []) ⟨Nat.zero_le _, trivial, fun j x hx => by simp at hx, Row.nil _ _ _⟩ sb (fun w h => h.sub (List.Sublist.cons_cons _ (List.Sublist.cons_cons _ (List.sublist_append_left _ _)))) (fun q hq => ?_)
  obtain ⟨N, so, sc, ob⟩ := q
  obtain ⟨hN, hR, hF, hrow⟩ := hq
  dsimp only at hN hR hF hrow ⊢
  have hsm : ∀ (H : Hp) w', (∀ p ∈ mob, p ∈ H) → SH w.heap.size w w' H → Sl w' 2 encSp mo m := fun H w' hm h => hmr.sl h hm
  have hlen60 := (dsOf_facts b56 hR (by omega) hF.last).1
  have hmne : m ≠ [] := fun e => by rw [e] at hm2; simp at hm2
  repeat' (first | refine rn ?_ | (apply TL_box; exact rfl; exact rfl; exact rfl; intro _ _) | (apply TL_alloc; exact rfl; intro _ _) | (apply TL_buildSlice; exact rfl; exact rfl; exact rfl; exact rfl; exact rfl; intro _ _))
  refine TC_cond_dec rfl (fun g5 => ?_) (fun g5 => ?_)
  · have hlt : N.length < m.length := by omega
    obtain ⟨s, hs⟩ : ∃ s, m[N.length]? = some s := ⟨_, List.getElem?_eq_getElem hlt⟩
    repeat' (first | refine rn ?_ | (apply TL_box; exact rfl; exact rfl; exact rfl; intro _ _) | (apply TL_alloc; exact rfl; intro _ _) | (apply TL_buildSlice; exact rfl; exact rfl; exact rfl; exact rfl; exact rfl; intro _ _))
    refine TL_index N.length rfl rfl rfl (fun w h => hsm _ w (fun p hp => mem_bk' hp) h) rfl hlt (Nat.le_refl _) ?_
    refine TL_load_eln (u := s) rfl rfl (fun w h => hsm _ w (fun p hp => mem_bk' hp) h) hs rfl ?_
    repeat' (first | refine rn ?_ | (apply TL_box; exact rfl; exact rfl; exact rfl; intro _ _) | (apply TL_alloc; exact rfl; intro _ _) | (apply TL_buildSlice; exact rfl; exact rfl; exact rfl; exact rfl; exact rfl; intro _ _))
    rename_i b19 _
    refine TL_gsplit_dec rfl rfl (fun g6 => ?_) (fun g6 => ?_)
    · repeat' (first | refine rn ?_ | (apply TL_box; exact rfl; exact rfl; exact rfl; intro _ _) | (apply TL_alloc; exact rfl; intro _ _) | (apply TL_buildSlice; exact rfl; exact rfl; exact rfl; exact rfl; exact rfl; intro _ _))
      exact TQ_ret1 Tryz.results3 (RV.tmp rfl) (fun w' hs => ⟨rfl, hs.below⟩)
    repeat' (first | refine rn ?_ | (apply TL_box; exact rfl; exact rfl; exact rfl; intro _ _) | (apply TL_alloc; exact rfl; intro _ _) | (apply TL_buildSlice; exact rfl; exact rfl; exact rfl; exact rfl; exact rfl; intro _ _))
    refine TL_gsplit_dec rfl rfl (fun g7 => ?_) (fun g7 => ?_)
    · repeat' (first | refine rn ?_ | (apply TL_box; exact rfl; exact rfl; exact rfl; intro _ _) | (apply TL_alloc; exact rfl; intro _ _) | (apply TL_buildSlice; exact rfl; exact rfl; exact rfl; exact rfl; exact rfl; intro _ _))
      exact TQ_ret1 Tryz.results3 (RV.tmp rfl) (fun w' hs => ⟨rfl, hs.below⟩)
    repeat' (first | refine rn ?_ | (apply TL_box; exact rfl; exact rfl; exact rfl; intro _ _) | (apply TL_alloc; exact rfl; intro _ _) | (apply TL_buildSlice; exact rfl; exact rfl; exact rfl; exact rfl; exact rfl; intro _ _))
    refine TC_cond_dec rfl (fun g8 => ?_) (fun g8 => ?_)
    · repeat' (first | refine rn ?_ | (apply TL_box; exact rfl; exact rfl; exact rfl; intro _ _) | (apply TL_alloc; exact rfl; intro _ _) | (apply TL_buildSlice; exact rfl; exact rfl; exact rfl; exact rfl; exact rfl; intro _ _))
      exact TQ_ret1 Tryz.results3 (RV.tmp rfl) (fun w' hs => ⟨rfl, hs.below⟩)
    have hs1 : 0 ≤ s.1 := by omega
    have hs2 : s.1 ≤ s.2 := by omega
    have hs3 : s.2 ≤ 1440 := by omega
    have hbd : 0 ≤ by_.getD N.length 0 ∧ by_.getD N.length 0 ≤ 4294967295 := by
      rw [List.getD_eq_getElem?_getD]
      cases hx : by_[N.length]? with
      | none => simp
      | some x => exact hby x (List.mem_of_getElem? hx)
    have hpk : s.1 ≤ pickR s (by_.getD N.length 0) := by
      unfold pickR
      have := Int.emod_nonneg (by_.getD N.length 0) (show s.2 - s.1 + 1 ≠ 0 by omega)
      omega
    repeat' (first | refine rn ?_ | (apply TL_box; exact rfl; exact rfl; exact rfl; intro _ _) | (apply TL_alloc; exact rfl; intro _ _) | (apply TL_buildSlice; exact rfl; exact rfl; exact rfl; exact rfl; exact rfl; intro _ _))
    apply TC_draw 7; kernel_rfl; exact Tryz.mixed
    · iterate 3 (refine' pv ?_; rotate_left)
      (refine' PG.val rfl rfl (by intro _X; refine TL_callV rfl rfl rfl (fun w h => c12 by_ bo bc N.length w (h.sl hb)) ?_; exact qe) ?_; rotate_left)
      (refine' PG.val rfl rfl (by intro _X; refine TL_callV rfl rfl rfl (fun w h => c11 s (by_.getD N.length 0) (by omega) hbd w) ?_; exact qe) ?_; rotate_left)
      iterate 2 (refine' pv ?_; rotate_left)
      exact PG.nil
    change TL _ _ _ _ _ _ _ _ _ _ _
    repeat' (first | refine rn ?_ | (apply TL_box; exact rfl; exact rfl; exact rfl; intro _ _) | (apply TL_alloc; exact rfl; intro _ _) | (apply TL_buildSlice; exact rfl; exact rfl; exact rfl; exact rfl; exact rfl; intro _ _))
    refine TC_cond_dec rfl (fun g9 => ?_) (fun g9 => ?_)
    · repeat' (first | refine rn ?_ | (apply TL_box; exact rfl; exact rfl; exact rfl; intro _ _) | (apply TL_alloc; exact rfl; intro _ _) | (apply TL_buildSlice; exact rfl; exact rfl; exact rfl; exact rfl; exact rfl; intro _ _))
      exact TQ_ret1 Tryz.results3 (RV.tmp rfl) (fun w' hs => ⟨rfl, hs.below⟩)
    obtain ⟨x, hx⟩ : ∃ x, x = max (pickR s (by_.getD N.length 0)) (lastN N) := ⟨_, rfl⟩
    rw [← hx] at g9 ⊢
    have hx1 : s.1 ≤ x := by omega
    have hx2 : x ≤ s.2 := by omega
    have hx3 : lastN N ≤ x := by omega
    have hR' := hR.snoc (show 0 ≤ x by omega) hx3
    have hF' := hF.snoc hs hx1 hx2 hs3
    have hsn := dsOf_snoc N x
    have hln := lastN_snoc N x
    have hlen : (N ++ [x]).length = N.length + 1 := by simp
    repeat' (first | refine rn ?_ | (apply TL_box; exact rfl; exact rfl; exact rfl; intro _ _) | (apply TL_alloc; exact rfl; intro _ _) | (apply TL_buildSlice; exact rfl; exact rfl; exact rfl; exact rfl; exact rfl; intro _ _))
    refine TL_gsplit_dec rfl rfl (fun g10 => ?_) (fun g10 => ?_)
    · repeat' (first | refine rn ?_ | (apply TL_box; exact rfl; exact rfl; exact rfl; intro _ _) | (apply TL_alloc; exact rfl; intro _ _) | (apply TL_buildSlice; exact rfl; exact rfl; exact rfl; exact rfl; exact rfl; intro _ _))
      refine TC_cond_dec rfl (fun g11 => ?_) (fun g11 => ?_)
      · rw [if_pos ⟨by omega, g11⟩] at hsn
        repeat' (first | refine rn ?_ | (apply TL_box; exact rfl; exact rfl; exact rfl; intro _ _) | (apply TL_alloc; exact rfl; intro _ _) | (apply TL_buildSlice; exact rfl; exact rfl; exact rfl; exact rfl; exact rfl; intro _ _))
        refine TL_append (l := dsOf N) (l2 := [mkD N.length (lastN N) x]) (enc := encDd) (G := _) rfl (by rfl) rfl rfl rfl rfl rfl hrow (pm_cons (pm_cons (pm_cons (pm_cons pm_here)))) (fun w h => Sl.of_blk h (List.Mem.head _) (fun _ _ => rfl) ⟨[], by rfl⟩) (fun u _ => rfl) (by simp only [List.length_singleton]; omega) (by simp only [List.length_singleton, maxLen]; omega) (fun so' sc' ob' hrow' => ?_)
        rw [← hsn] at hrow' ⊢
        repeat' (first | refine rn ?_ | (apply TL_box; exact rfl; exact rfl; exact rfl; intro _ _) | (apply TL_alloc; exact rfl; intro _ _) | (apply TL_buildSlice; exact rfl; exact rfl; exact rfl; exact rfl; exact rfl; intro _ _))
        refine TQ_round (N ++ [x], so', sc', ob') ⟨by dsimp only; omega, hR', hF', hrow'⟩ (by dsimp only; omega) (by dsimp only; rw [hln, hlen]; exact sb) (fun w h => ?_)
        exact (h.sub (H' := ob' ++ ((b15, .cells (encRo (roW b56)) 43) :: (b56, .cells (encHo ⟨50, (0, 1440)⟩) 40) :: mob)) (List.Sublist.append (List.Sublist.refl _) (List.Sublist.cons _ (List.Sublist.cons _ (List.Sublist.refl _))))).perm pm_bk
      · rw [if_neg (fun h => g11 h.2), List.append_nil] at hsn
        repeat' (first | refine rn ?_ | (apply TL_box; exact rfl; exact rfl; exact rfl; intro _ _) | (apply TL_alloc; exact rfl; intro _ _) | (apply TL_buildSlice; exact rfl; exact rfl; exact rfl; exact rfl; exact rfl; intro _ _))
        refine TQ_round (N ++ [x], so, sc, ob) ⟨by dsimp only; omega, hR', hF', by rw [hsn]; exact hrow⟩ (by dsimp only; omega) (by dsimp only; rw [hln, hlen, hsn]; exact sb) (fun w h => h.sub (List.sublist_cons_self _ _))
    · rw [if_neg (fun h => g10 (by omega)), List.append_nil] at hsn
      repeat' (first | refine rn ?_ | (apply TL_box; exact rfl; exact rfl; exact rfl; intro _ _) | (apply TL_alloc; exact rfl; intro _ _) | (apply TL_buildSlice; exact rfl; exact rfl; exact rfl; exact rfl; exact rfl; intro _ _))
      refine TQ_round (N ++ [x], so, sc, ob) ⟨by dsimp only; omega, hR', hF', by rw [hsn]; exact hrow⟩ (by dsimp only; omega) (by dsimp only; rw [hln, hlen, hsn]; exact sb) (fun w h => h.sub (List.sublist_cons_self _ _))
  · have hNl : N.length = m.length := by omega
    obtain ⟨f1, f2, f3, f4, f5⟩ := dsOf_facts b56 hR (by omega) hF.last
    have hA : 0 ≤ minute % 1440 ∧ minute % 1440 < 1440 := by omega
    obtain ⟨A, hAe⟩ : ∃ A, A = minute % 1440 := ⟨_, rfl⟩
    rw [← hAe] at hA
    repeat' (first | refine rn ?_ | (apply TL_box; exact rfl; exact rfl; exact rfl; intro _ _) | (apply TL_alloc; exact rfl; intro _ _) | (apply TL_buildSlice; exact rfl; exact rfl; exact rfl; exact rfl; exact rfl; intro _ _))
    rw [show IntKind.i64.wrap minute = minute from wrap_i64_of (by omega)]
    repeat' (first | refine rn ?_ | (apply TL_box; exact rfl; exact rfl; exact rfl; intro _ _) | (apply TL_alloc; exact rfl; intro _ _) | (apply TL_buildSlice; exact rfl; exact rfl; exact rfl; exact rfl; exact rfl; intro _ _))
    rw [← hAe]
    refine TL_callV rfl rfl rfl (fun w h => c13r (roW b56) (dsOf N) so sc 1 1 A f1 f2 (fun x hx => (f5 x hx).1.day) (fun x hx => (f5 x hx).2.1) (fun _ => f3) w (Sl.of_blk (enc := encHo) (k := 3) (l := [⟨50, (0, 1440)⟩]) h (List.Mem.tail _ (List.Mem.head _)) (fun _ _ => rfl) ⟨[], rfl⟩) (by show (1 : Nat) ≤ 4611686018427387904; decide) (heirs_nil (b := b56) hR (by omega) hF.last (hrow.sl h (fun p hp => mem_bk0 hp)))) ?_
    rw [atW b56 (dsOf N) A (by omega) f2 f3 f4 (fun d hd => (f5 d hd).1) hA.1 hA.2]
    obtain ⟨s0, hs0⟩ : ∃ s, m[0]? = some s := ⟨_, List.getElem?_eq_getElem (by omega)⟩
    obtain ⟨n0, hn0⟩ : ∃ s, N[0]? = some s := ⟨_, List.getElem?_eq_getElem (by omega)⟩
    obtain ⟨sL, hsL⟩ : ∃ s, m[m.length - 1]? = some s := ⟨_, List.getElem?_eq_getElem (by omega)⟩
    have hlow : s0.1 ≤ n0 := by
      obtain ⟨s, e1, e2, _⟩ := hF 0 n0 hn0
      rw [hs0] at e1; cases e1; exact e2
    have hNne : N ≠ [] := fun e => by rw [e] at hNl; simp at hNl; omega
    have hhigh : lastN N ≤ sL.2 := by
      obtain ⟨s, e1, _, e3, _⟩ := hF _ _ (lastN_get hNne)
      rw [hNl, hsL] at e1; cases e1; exact e3
    iterate 10 refine r1 ?_
    refine TC_join (σ := Unit) (fun _ => True) (fun _ => [(11, .bool true), (12, .slice mo m.length mc), (21, .int .i64 A), (23, .int .i64 (usW (dsOf N) A)), (154, .bool false)]) (fun _ => mob) ?_ (fun _ _ => ?_)
    · repeat' (first | refine rn ?_ | (apply TL_box; exact rfl; exact rfl; exact rfl; intro _ _) | (apply TL_alloc; exact rfl; intro _ _) | (apply TL_buildSlice; exact rfl; exact rfl; exact rfl; exact rfl; exact rfl; intro _ _))
      refine TL_index 0 rfl rfl rfl (fun w h => hsm _ w (fun p hp => mem_bk' hp) h) rfl (by omega) (Nat.le_refl _) ?_
      repeat' (first | refine rn ?_ | (apply TL_box; exact rfl; exact rfl; exact rfl; intro _ _) | (apply TL_alloc; exact rfl; intro _ _) | (apply TL_buildSlice; exact rfl; exact rfl; exact rfl; exact rfl; exact rfl; intro _ _))
      refine TL_fieldAddr_el rfl rfl (fun w h => hsm _ w (fun p hp => mem_bk' hp) h) hmne ?_
      repeat' (first | refine rn ?_ | (apply TL_box; exact rfl; exact rfl; exact rfl; intro _ _) | (apply TL_alloc; exact rfl; intro _ _) | (apply TL_buildSlice; exact rfl; exact rfl; exact rfl; exact rfl; exact rfl; intro _ _))
      refine TL_load_el1 (u := s0) rfl rfl (fun w h => hsm _ w (fun p hp => mem_bk' hp) h) hs0 rfl ?_
      repeat' (first | refine rn ?_ | (apply TL_box; exact rfl; exact rfl; exact rfl; intro _ _) | (apply TL_alloc; exact rfl; intro _ _) | (apply TL_buildSlice; exact rfl; exact rfl; exact rfl; exact rfl; exact rfl; intro _ _))
      refine TL_gsplit_dec rfl rfl (fun g12 => ?_) (fun g12 => ?_)
      · have hu := usW_low (t := A) hR hn0 (by omega)
        rw [hu]
        repeat' (first | refine rn ?_ | (apply TL_box; exact rfl; exact rfl; exact rfl; intro _ _) | (apply TL_alloc; exact rfl; intro _ _) | (apply TL_buildSlice; exact rfl; exact rfl; exact rfl; exact rfl; exact rfl; intro _ _))
        refine TL_index (m.length - 1) rfl rfl rfl (fun w h => hsm _ w (fun p hp => mem_bk' hp) h) (by omega) (by omega) (Nat.le_refl _) ?_
        repeat' (first | refine rn ?_ | (apply TL_box; exact rfl; exact rfl; exact rfl; intro _ _) | (apply TL_alloc; exact rfl; intro _ _) | (apply TL_buildSlice; exact rfl; exact rfl; exact rfl; exact rfl; exact rfl; intro _ _))
        refine TL_fieldAddr_el rfl rfl (fun w h => hsm _ w (fun p hp => mem_bk' hp) h) hmne ?_
        repeat' (first | refine rn ?_ | (apply TL_box; exact rfl; exact rfl; exact rfl; intro _ _) | (apply TL_alloc; exact rfl; intro _ _) | (apply TL_buildSlice; exact rfl; exact rfl; exact rfl; exact rfl; exact rfl; intro _ _))
        refine TL_load_el1 (u := sL) rfl rfl (fun w h => hsm _ w (fun p hp => mem_bk' hp) h) hsL rfl ?_
        repeat' (first | refine rn ?_ | (apply TL_box; exact rfl; exact rfl; exact rfl; intro _ _) | (apply TL_alloc; exact rfl; intro _ _) | (apply TL_buildSlice; exact rfl; exact rfl; exact rfl; exact rfl; exact rfl; intro _ _))
        refine TL_gsplit_dec rfl rfl (fun g13 => ?_) (fun g13 => ?_)
        · repeat' (first | refine rn ?_ | (apply TL_box; exact rfl; exact rfl; exact rfl; intro _ _) | (apply TL_alloc; exact rfl; intro _ _) | (apply TL_buildSlice; exact rfl; exact rfl; exact rfl; exact rfl; exact rfl; intro _ _))
          exact TQ_mid () trivial sb (fun w h => h.sub (List.Sublist.cons _ (List.Sublist.cons _ (List.sublist_append_right _ _))))
        · repeat' (first | refine rn ?_ | (apply TL_box; exact rfl; exact rfl; exact rfl; intro _ _) | (apply TL_alloc; exact rfl; intro _ _) | (apply TL_buildSlice; exact rfl; exact rfl; exact rfl; exact rfl; exact rfl; intro _ _))
          exact TQ_mid () trivial sb (fun w h => h.sub (List.Sublist.cons _ (List.Sublist.cons _ (List.sublist_append_right _ _))))
      · repeat' (first | refine rn ?_ | (apply TL_box; exact rfl; exact rfl; exact rfl; intro _ _) | (apply TL_alloc; exact rfl; intro _ _) | (apply TL_buildSlice; exact rfl; exact rfl; exact rfl; exact rfl; exact rfl; intro _ _))
        refine TL_index (m.length - 1) rfl rfl rfl (fun w h => hsm _ w (fun p hp => mem_bk' hp) h) (by omega) (by omega) (Nat.le_refl _) ?_
        repeat' (first | refine rn ?_ | (apply TL_box; exact rfl; exact rfl; exact rfl; intro _ _) | (apply TL_alloc; exact rfl; intro _ _) | (apply TL_buildSlice; exact rfl; exact rfl; exact rfl; exact rfl; exact rfl; intro _ _))
        refine TL_fieldAddr_el rfl rfl (fun w h => hsm _ w (fun p hp => mem_bk' hp) h) hmne ?_
        repeat' (first | refine rn ?_ | (apply TL_box; exact rfl; exact rfl; exact rfl; intro _ _) | (apply TL_alloc; exact rfl; intro _ _) | (apply TL_buildSlice; exact rfl; exact rfl; exact rfl; exact rfl; exact rfl; intro _ _))
        refine TL_load_el1 (u := sL) rfl rfl (fun w h => hsm _ w (fun p hp => mem_bk' hp) h) hsL rfl ?_
        repeat' (first | refine rn ?_ | (apply TL_box; exact rfl; exact rfl; exact rfl; intro _ _) | (apply TL_alloc; exact rfl; intro _ _) | (apply TL_buildSlice; exact rfl; exact rfl; exact rfl; exact rfl; exact rfl; intro _ _))
        refine TL_gsplit_dec rfl rfl (fun g13 => ?_) (fun g13 => ?_)
        · have hu := usW_high (t := A) hR (by omega)
          rw [hu]
          repeat' (first | refine rn ?_ | (apply TL_box; exact rfl; exact rfl; exact rfl; intro _ _) | (apply TL_alloc; exact rfl; intro _ _) | (apply TL_buildSlice; exact rfl; exact rfl; exact rfl; exact rfl; exact rfl; intro _ _))
          exact TQ_mid () trivial sb (fun w h => h.sub (List.Sublist.cons _ (List.Sublist.cons _ (List.sublist_append_right _ _))))
        · repeat' (first | refine rn ?_ | (apply TL_box; exact rfl; exact rfl; exact rfl; intro _ _) | (apply TL_alloc; exact rfl; intro _ _) | (apply TL_buildSlice; exact rfl; exact rfl; exact rfl; exact rfl; exact rfl; intro _ _))
          exact TQ_mid () trivial sb (fun w h => h.sub (List.Sublist.cons _ (List.Sublist.cons _ (List.sublist_append_right _ _))))
    repeat' (first | refine rn ?_ | (apply TL_box; exact rfl; exact rfl; exact rfl; intro _ _) | (apply TL_alloc; exact rfl; intro _ _) | (apply TL_buildSlice; exact rfl; exact rfl; exact rfl; exact rfl; exact rfl; intro _ _))
    refine TC_loop (σ := Nat) (fun j => 1 ≤ j ∧ j ≤ m.length) (fun j => [(11, .bool true), (12, .slice mo m.length mc), (21, .int .i64 A), (23, .int .i64 (usW (dsOf N) A)), (25, .int .i64 j)]) (fun _ => mob) (fun j => m.length - j) 1 ⟨by omega, by omega⟩ sb (fun w h => h) (fun j hj => ?_)
    obtain ⟨hj1, hj2⟩ := hj
    repeat' (first | refine rn ?_ | (apply TL_box; exact rfl; exact rfl; exact rfl; intro _ _) | (apply TL_alloc; exact rfl; intro _ _) | (apply TL_buildSlice; exact rfl; exact rfl; exact rfl; exact rfl; exact rfl; intro _ _))
    refine TC_cond_dec rfl (fun g14 => ?_) (fun g14 => ?_)
    · have hlt : j < m.length := by omega
      obtain ⟨j', rfl⟩ : ∃ j', j = j' + 1 := ⟨j - 1, by omega⟩
      obtain ⟨sp, hsp⟩ : ∃ s, m[j']? = some s := ⟨_, List.getElem?_eq_getElem (by omega)⟩
      obtain ⟨sn, hsn⟩ : ∃ s, m[j' + 1]? = some s := ⟨_, List.getElem?_eq_getElem (by omega)⟩
      obtain ⟨np, hnp⟩ : ∃ s, N[j']? = some s := ⟨_, List.getElem?_eq_getElem (by omega)⟩
      obtain ⟨nn, hnn⟩ : ∃ s, N[j' + 1]? = some s := ⟨_, List.getElem?_eq_getElem (by omega)⟩
      have hp1 : np ≤ sp.2 := by
        obtain ⟨s, e1, _, e3, _⟩ := hF _ _ hnp
        rw [hsp] at e1; cases e1; exact e3
      have hn1 : sn.1 ≤ nn := by
        obtain ⟨s, e1, e2, _⟩ := hF _ _ hnn
        rw [hsn] at e1; cases e1; exact e2
      repeat' (first | refine rn ?_ | (apply TL_box; exact rfl; exact rfl; exact rfl; intro _ _) | (apply TL_alloc; exact rfl; intro _ _) | (apply TL_buildSlice; exact rfl; exact rfl; exact rfl; exact rfl; exact rfl; intro _ _))
      refine TL_index j' rfl rfl rfl (fun w h => hsm _ w (fun p hp => hp) h) (by omega) (by omega) (Nat.le_refl _) ?_
      refine TL_fieldAddr_el rfl rfl (fun w h => hsm _ w (fun p hp => hp) h) hmne ?_
      refine TL_load_el1 (u := sp) rfl rfl (fun w h => hsm _ w (fun p hp => hp) h) hsp rfl ?_
      repeat' (first | refine rn ?_ | (apply TL_box; exact rfl; exact rfl; exact rfl; intro _ _) | (apply TL_alloc; exact rfl; intro _ _) | (apply TL_buildSlice; exact rfl; exact rfl; exact rfl; exact rfl; exact rfl; intro _ _))
      refine TL_gsplit_dec rfl rfl (fun g15 => ?_) (fun g15 => ?_)
      · repeat' (first | refine rn ?_ | (apply TL_box; exact rfl; exact rfl; exact rfl; intro _ _) | (apply TL_alloc; exact rfl; intro _ _) | (apply TL_buildSlice; exact rfl; exact rfl; exact rfl; exact rfl; exact rfl; intro _ _))
        refine TL_index (j' + 1) rfl rfl rfl (fun w h => hsm _ w (fun p hp => hp) h) rfl hlt (Nat.le_refl _) ?_
        repeat' (first | refine rn ?_ | (apply TL_box; exact rfl; exact rfl; exact rfl; intro _ _) | (apply TL_alloc; exact rfl; intro _ _) | (apply TL_buildSlice; exact rfl; exact rfl; exact rfl; exact rfl; exact rfl; intro _ _))
        refine TL_fieldAddr_el rfl rfl (fun w h => hsm _ w (fun p hp => hp) h) hmne ?_
        repeat' (first | refine rn ?_ | (apply TL_box; exact rfl; exact rfl; exact rfl; intro _ _) | (apply TL_alloc; exact rfl; intro _ _) | (apply TL_buildSlice; exact rfl; exact rfl; exact rfl; exact rfl; exact rfl; intro _ _))
        refine TL_load_el1 (u := sn) rfl rfl (fun w h => hsm _ w (fun p hp => hp) h) hsn rfl ?_
        repeat' (first | refine rn ?_ | (apply TL_box; exact rfl; exact rfl; exact rfl; intro _ _) | (apply TL_alloc; exact rfl; intro _ _) | (apply TL_buildSlice; exact rfl; exact rfl; exact rfl; exact rfl; exact rfl; intro _ _))
        refine TL_gsplit_dec rfl rfl (fun g16 => ?_) (fun g16 => ?_)
        · have hu := usW_mid (t := A) j' hR hnp hnn (by omega) (by omega)
          repeat' (first | refine rn ?_ | (apply TL_box; exact rfl; exact rfl; exact rfl; intro _ _) | (apply TL_alloc; exact rfl; intro _ _) | (apply TL_buildSlice; exact rfl; exact rfl; exact rfl; exact rfl; exact rfl; intro _ _))
          refine TC_cond_dec rfl (fun h => absurd hu h) (fun _ => ?_)
          repeat' (first | refine rn ?_ | (apply TL_box; exact rfl; exact rfl; exact rfl; intro _ _) | (apply TL_alloc; exact rfl; intro _ _) | (apply TL_buildSlice; exact rfl; exact rfl; exact rfl; exact rfl; exact rfl; intro _ _))
          exact TQ_round (j' + 2) ⟨by omega, by omega⟩ (by omega) sb (fun w h => h)
        · repeat' (first | refine rn ?_ | (apply TL_box; exact rfl; exact rfl; exact rfl; intro _ _) | (apply TL_alloc; exact rfl; intro _ _) | (apply TL_buildSlice; exact rfl; exact rfl; exact rfl; exact rfl; exact rfl; intro _ _))
          exact TQ_round (j' + 2) ⟨by omega, by omega⟩ (by omega) sb (fun w h => h)
      · repeat' (first | refine rn ?_ | (apply TL_box; exact rfl; exact rfl; exact rfl; intro _ _) | (apply TL_alloc; exact rfl; intro _ _) | (apply TL_buildSlice; exact rfl; exact rfl; exact rfl; exact rfl; exact rfl; intro _ _))
        exact TQ_round (j' + 2) ⟨by omega, by omega⟩ (by omega) sb (fun w h => h)
    · repeat' (first | refine rn ?_ | (apply TL_box; exact rfl; exact rfl; exact rfl; intro _ _) | (apply TL_alloc; exact rfl; intro _ _) | (apply TL_buildSlice; exact rfl; exact rfl; exact rfl; exact rfl; exact rfl; intro _ _))
      exact TQ_ret1 Tryz.results3 (RV.tmp rfl) (fun w' hs => ⟨rfl, hs.below⟩)
end Go.Proofs.YtkpkebpofpcmaaaGreatDoor
