/- Walks: Fall of the reference; the statement LevelHeights. -/
import Derived.Test.YtoolblbdmmiahaaL10
namespace Go.Proofs.Ytoolblbdmmiahaa
open Go Go.Eng Go.RowKit Go.Proofs
set_option maxHeartbeats 4000000
set_option maxRecDepth 10000
attribute [local irreducible] TL TC TQ

theorem TC_hperm {r : Option Nat} {P : Program} {Q : Exit → Act → World → Prop} {N : Nat} {D : List Deferred} {B : Nat} {w0 : World} {L : Env} {H H' : Hp} {c : Code} (hp : H'.Perm H) (h : TC r P Q N D B w0 L H' c) : TC r P Q N D B w0 L H c := TC.weaken (Sub.refl _) (fun w hs => hs.perm hp) h
theorem c50 {B : Nat} {w0 : World} (T : Tb) (W : Nat) (bo : Nat) (bs : List Nat) (hbl : bs.length = W) (a b : Int) (ha : 0 ≤ a ∧ a < W) (hb : 0 ≤ b ∧ b < W) (hT : -100000000 ≤ T a.toNat b.toNat ∧ T a.toNat b.toNat ≤ 100000000) (G : Hp)
    (hm1 : (bo, Blk.cells (ocells W bs 0) 46) ∈ G) (hm2 : ∀ i b, bs[i]? = some b → (b, Blk.cells (encRw W T i) 3) ∈ G) (w : World) (hs : SH B w0 w G) :
    Calls Try.prog 50 #[.slice (some ⟨bo, 0, none⟩) W W, .int .i64 a, .int .i64 b] w (RetP B w0 (fun _ : Unit => .agg (encSp (fallR T a.toNat b.toNat)).toArray) (fun _ => G) (fun _ => True)) := by
  have hbs : ∀ a, a < W → ∃ b, bs[a]? = some b := fun a ha => ⟨_, List.getElem?_eq_getElem (by omega)⟩
  obtain ⟨b1, hb1⟩ := hbs a.toNat (by omega)
  obtain ⟨b2, hb2⟩ := hbs b.toNat (by omega)
  refine enter (args := [.slice (some ⟨bo, 0, none⟩) W W, .int .i64 a, .int .i64 b]) Try.func50 rfl Try.ntmps50 rfl hs ?_
  repeat' (first | refine rn ?_ | (apply TL_box; exact rfl; exact rfl; exact rfl; intro _ _) | (apply TL_alloc; exact rfl; intro _ _) | (apply TL_buildSlice; exact rfl; exact rfl; exact rfl; exact rfl; exact rfl; intro _ _))
  apply TC_draw 16; kernel_rfl; exact Try.mixed
  · iterate 2 (refine' pv ?_; rotate_left)
    (refine' PG.val rfl rfl (by intro _X; refine TL_index (a.toNat) rfl rfl rfl (fun w h => ocSl (m := 0) (bs := bs) h (by repeat (first | exact hm1 | apply List.mem_cons_of_mem | apply List.mem_append_right))) (by omega) (by rw [oc_len]; omega) (by rw [oc_len]; omega) ?_; exact qe) ?_; rotate_left)
    (refine' PG.val rfl rfl (by intro _X; refine TL_load_el1 rfl rfl (fun w h => ocSl (m := 0) (bs := bs) h (by repeat (first | exact hm1 | apply List.mem_cons_of_mem | apply List.mem_append_right))) (oc_get hb1) rfl ?_; exact qe) ?_; rotate_left)
    (refine' pv ?_; rotate_left)
    (refine' PG.val rfl rfl (by intro _X; refine TL_index (b.toNat) rfl rfl rfl (fun w h => rowSl (i := a.toNat) (T := T) h (by repeat (first | exact hm2 _ _ hb1 | apply List.mem_cons_of_mem | apply List.mem_append_right))) (by omega) (by rw [rowL_len]; omega) (by rw [rowL_len]; exact Nat.le_refl _) ?_; exact qe) ?_; rotate_left)
    (refine' PG.val rfl rfl (by intro _X; refine TL_load_el1 (u := T (a.toNat) (b.toNat)) rfl rfl (fun w h => rowSl (i := a.toNat) (T := T) h (by repeat (first | exact hm2 _ _ hb1 | apply List.mem_cons_of_mem | apply List.mem_append_right))) (rowL_get (by omega)) rfl ?_; exact qe) ?_; rotate_left)
    iterate 3 (refine' pv ?_; rotate_left)
    (refine' PG.val rfl rfl (by intro _X; refine TL_index (b.toNat) rfl rfl rfl (fun w h => ocSl (m := 0) (bs := bs) h (by repeat (first | exact hm1 | apply List.mem_cons_of_mem | apply List.mem_append_right))) (by omega) (by rw [oc_len]; omega) (by rw [oc_len]; omega) ?_; exact qe) ?_; rotate_left)
    (refine' PG.val rfl rfl (by intro _X; refine TL_load_el1 rfl rfl (fun w h => ocSl (m := 0) (bs := bs) h (by repeat (first | exact hm1 | apply List.mem_cons_of_mem | apply List.mem_append_right))) (oc_get hb2) rfl ?_; exact qe) ?_; rotate_left)
    (refine' pv ?_; rotate_left)
    (refine' PG.val rfl rfl (by intro _X; refine TL_index (a.toNat) rfl rfl rfl (fun w h => rowSl (i := b.toNat) (T := T) h (by repeat (first | exact hm2 _ _ hb2 | apply List.mem_cons_of_mem | apply List.mem_append_right))) (by omega) (by rw [rowL_len]; omega) (by rw [rowL_len]; exact Nat.le_refl _) ?_; exact qe) ?_; rotate_left)
    (refine' PG.val rfl rfl (by intro _X; refine TL_load_el1 (u := T (b.toNat) (a.toNat)) rfl rfl (fun w h => rowSl (i := b.toNat) (T := T) h (by repeat (first | exact hm2 _ _ hb2 | apply List.mem_cons_of_mem | apply List.mem_append_right))) (rowL_get (by omega)) rfl ?_; exact qe) ?_; rotate_left)
    (refine' pv ?_; rotate_left)
    exact PG.nil
  change TL _ _ _ _ _ _ _ _ _ _ _
  repeat' (first | refine rn ?_ | (apply TL_box; exact rfl; exact rfl; exact rfl; intro _ _) | (apply TL_alloc; exact rfl; intro _ _) | (apply TL_buildSlice; exact rfl; exact rfl; exact rfl; exact rfl; exact rfl; intro _ _))
  exact TQ_ret1 Try.results50 (RV.celln rfl mm (by rfl)) (fun w' hs => ⟨(), trivial, rfl, hs.sub (List.Sublist.cons _ (List.Sublist.refl _))⟩)
theorem c19 (S : Sv) (p : Pl) (a b : Int) (h1 : S.shots.length ≤ 1000000) (h2 : S.marks.length ≤ 1000000) (h3 : S.thr.length ≤ 1000000) (w : World) (ha : SvAt w S p) :
    Calls Try.prog 19 #[.agg (encSv S p).toArray, .int .i64 a, .int .i64 b] w (RetV w (.tuple #[.agg (encSp (fallF S a b).1).toArray, .int .i64 (fallF S a b).2])) := by
  refine enter (args := [.agg (encSv S p).toArray, .int .i64 a, .int .i64 b]) Try.func19 rfl Try.ntmps19 rfl (SH.refl _) ?_
  repeat' (first | refine rn ?_ | (apply TL_box; exact rfl; exact rfl; exact rfl; intro _ _) | (apply TL_alloc; exact rfl; intro _ _) | (apply TL_buildSlice; exact rfl; exact rfl; exact rfl; exact rfl; exact rfl; intro _ _))
  rename_i b3 _ b6 _
  refine TL_callV rfl rfl rfl (fun w h => c21 S p h1 h2 h3 w (ha.mono h)) ?_
  by_cases hS : OkSv S
  rotate_left
  · have e : fallF S a b = ((0, 0), 10) := by unfold fallF; rw [if_pos hS]
    rw [e, checkS_no hS]
    repeat' (first | refine rn ?_ | (apply TL_box; exact rfl; exact rfl; exact rfl; intro _ _) | (apply TL_alloc; exact rfl; intro _ _) | (apply TL_buildSlice; exact rfl; exact rfl; exact rfl; exact rfl; exact rfl; intro _ _))
    exact TQ_ret2 Try.results19 (RV.celln rfl mm (by rfl)) (RV.tmp rfl) (fun w' hs => ⟨rfl, hs.below⟩)
  rw [checkS_ok hS]
  have hp := hS.1
  simp only [In] at hp
  repeat' (first | refine rn ?_ | (apply TL_box; exact rfl; exact rfl; exact rfl; intro _ _) | (apply TL_alloc; exact rfl; intro _ _) | (apply TL_buildSlice; exact rfl; exact rfl; exact rfl; exact rfl; exact rfl; intro _ _))
  refine TL_callV rfl rfl rfl (fun w _ => c49 a 0 (S.pts - 1) w) ?_
  by_cases hia : In a 0 (S.pts - 1)
  rotate_left
  · have e : fallF S a b = ((0, 0), 2) := by unfold fallF; rw [if_neg (not_not_intro hS), if_pos (fun h => hia h.1)]
    rw [e, decide_eq_false hia]
    repeat' (first | refine rn ?_ | (apply TL_box; exact rfl; exact rfl; exact rfl; intro _ _) | (apply TL_alloc; exact rfl; intro _ _) | (apply TL_buildSlice; exact rfl; exact rfl; exact rfl; exact rfl; exact rfl; intro _ _))
    exact TQ_ret2 Try.results19 (RV.celln rfl mm (by rfl)) (RV.tmp rfl) (fun w' hs => ⟨rfl, hs.below⟩)
  rw [decide_eq_true hia]
  repeat' (first | refine rn ?_ | (apply TL_box; exact rfl; exact rfl; exact rfl; intro _ _) | (apply TL_alloc; exact rfl; intro _ _) | (apply TL_buildSlice; exact rfl; exact rfl; exact rfl; exact rfl; exact rfl; intro _ _))
  refine TL_callV rfl rfl rfl (fun w _ => c49 b 0 (S.pts - 1) w) ?_
  by_cases hib : In b 0 (S.pts - 1)
  rotate_left
  · have e : fallF S a b = ((0, 0), 2) := by unfold fallF; rw [if_neg (not_not_intro hS), if_pos (fun h => hib h.2)]
    rw [e, decide_eq_false hib]
    repeat' (first | refine rn ?_ | (apply TL_box; exact rfl; exact rfl; exact rfl; intro _ _) | (apply TL_alloc; exact rfl; intro _ _) | (apply TL_buildSlice; exact rfl; exact rfl; exact rfl; exact rfl; exact rfl; intro _ _))
    exact TQ_ret2 Try.results19 (RV.celln rfl mm (by rfl)) (RV.tmp rfl) (fun w' hs => ⟨rfl, hs.below⟩)
  rw [decide_eq_true hib]
  have hia' := hia
  have hib' := hib
  simp only [In] at hia' hib'
  repeat' (first | refine rn ?_ | (apply TL_box; exact rfl; exact rfl; exact rfl; intro _ _) | (apply TL_alloc; exact rfl; intro _ _) | (apply TL_buildSlice; exact rfl; exact rfl; exact rfl; exact rfl; exact rfl; intro _ _))
  cases hok : okS S with
  | false =>
    have e : fallF S a b = ((0, 0), 11) := by unfold fallF; rw [if_neg (not_not_intro hS), if_neg (not_not_intro ⟨hia, hib⟩), if_neg (by rw [hok]; simp)]
    rw [e]
    refine TC_join (σ := Unit) (fun _ => True) (fun _ => [(1, .int .i64 a), (2, .int .i64 b), (3, .pointer (some ⟨b3, 0, none⟩)), (6, .pointer (some ⟨b6, 0, none⟩)), (8, .slice none 0 0), (9, .bool false)]) (fun _ => [(b6, .cells [.int .i64 0, .int .i64 0] 36), (b3, .cells (encSv S p) 26)]) ?_ (fun _ _ => ?_)
    · refine TC_any Try.mixed ?_
      refine TA_stepL [0, 1] (by kernel_rfl) rfl ⟨?_, ?_, trivial⟩
      · change TL _ _ _ _ _ _ _ _ _ _ _
        refine r1 ?_; apply TL_nil; apply TQ_any
        refine TA_stepL [1] (by kernel_rfl) rfl ⟨?_, trivial⟩
        change TL _ _ _ _ _ _ _ _ _ _ _
        refine r1 ?_; apply TL_nil; apply TQ_any
        refine TA_stepL [2] (by kernel_rfl) rfl ⟨?_, trivial⟩
        change TL _ _ _ _ _ _ _ _ _ _ _
        (refine TL_callN rfl rfl rfl (fun w h => c47 S p (by omega) (by omega) w) ?_; rintro bc -); apply TL_nil; apply TQ_any
        refine TA_stepL [3] (by kernel_rfl) rfl ⟨?_, trivial⟩
        change TL _ _ _ _ _ _ _ _ _ _ _
        refine TL_callV rfl rfl rfl (fun w h => c46_no S p hS none_ _ _ 0 (by omega) hok w (ha.mono h) (Sl.of_blk h mm (fun _ _ => rfl) ⟨[], encC_flat _ _⟩)) ?_; apply TL_nil; apply TQ_any
        refine TA_stepL [4] (by kernel_rfl) rfl ⟨?_, trivial⟩
        change TL _ _ _ _ _ _ _ _ _ _ _
        refine r1 ?_; apply TL_nil; apply TQ_any
        refine TA_stepL [5, 6] (by kernel_rfl) rfl ⟨?_, ?_, trivial⟩
        · change TL _ _ _ _ _ _ _ _ _ _ _
          refine r1 ?_; apply TL_nil; apply TQ_any
          refine TA_stepL [6, 7] (by kernel_rfl) rfl ⟨?_, ?_, trivial⟩
          · change TL _ _ _ _ _ _ _ _ _ _ _
            refine r1 ?_; apply TL_nil; apply TQ_any
            refine TA_stepL [7] (by kernel_rfl) rfl ⟨?_, trivial⟩
            change TL _ _ _ _ _ _ _ _ _ _ _
            refine r1 ?_; apply TL_nil; apply TQ_any
            refine TA_stepL [8] (by kernel_rfl) rfl ⟨?_, trivial⟩
            change TL _ _ _ _ _ _ _ _ _ _ _
            refine r1 ?_; apply TL_nil; apply TQ_any
            refine TA_done (by kernel_rfl) ?_
            exact TQ_mid () trivial sb (fun w h => h.sub (List.Sublist.cons _ (List.Sublist.refl _)))
          · change TL _ _ _ _ _ _ _ _ _ _ _
            refine r1 ?_; apply TL_nil; apply TQ_any
            refine TA_stepL [6] (by kernel_rfl) rfl ⟨?_, trivial⟩
            change TL _ _ _ _ _ _ _ _ _ _ _
            refine r1 ?_; apply TL_nil; apply TQ_any
            refine TA_stepL [8] (by kernel_rfl) rfl ⟨?_, trivial⟩
            change TL _ _ _ _ _ _ _ _ _ _ _
            refine r1 ?_; apply TL_nil; apply TQ_any
            refine TA_done (by kernel_rfl) ?_
            exact TQ_mid () trivial sb (fun w h => h.sub (List.Sublist.cons _ (List.Sublist.refl _)))
        · change TL _ _ _ _ _ _ _ _ _ _ _
          refine r1 ?_; apply TL_nil; apply TQ_any
          refine TA_stepL [5] (by kernel_rfl) rfl ⟨?_, trivial⟩
          change TL _ _ _ _ _ _ _ _ _ _ _
          refine r1 ?_; apply TL_nil; apply TQ_any
          refine TA_stepL [7] (by kernel_rfl) rfl ⟨?_, trivial⟩
          change TL _ _ _ _ _ _ _ _ _ _ _
          refine r1 ?_; apply TL_nil; apply TQ_any
          refine TA_stepL [8] (by kernel_rfl) rfl ⟨?_, trivial⟩
          change TL _ _ _ _ _ _ _ _ _ _ _
          refine r1 ?_; apply TL_nil; apply TQ_any
          refine TA_done (by kernel_rfl) ?_
          exact TQ_mid () trivial sb (fun w h => h.sub (List.Sublist.cons _ (List.Sublist.refl _)))
      · change TL _ _ _ _ _ _ _ _ _ _ _
        refine r1 ?_; apply TL_nil; apply TQ_any
        refine TA_stepL [0, 2] (by kernel_rfl) rfl ⟨?_, ?_, trivial⟩
        · change TL _ _ _ _ _ _ _ _ _ _ _
          refine r1 ?_; apply TL_nil; apply TQ_any
          refine TA_stepL [2] (by kernel_rfl) rfl ⟨?_, trivial⟩
          change TL _ _ _ _ _ _ _ _ _ _ _
          (refine TL_callN rfl rfl rfl (fun w h => c47 S p (by omega) (by omega) w) ?_; rintro bc -); apply TL_nil; apply TQ_any
          refine TA_stepL [3] (by kernel_rfl) rfl ⟨?_, trivial⟩
          change TL _ _ _ _ _ _ _ _ _ _ _
          refine TL_callV rfl rfl rfl (fun w h => c46_no S p hS none_ _ _ 0 (by omega) hok w (ha.mono h) (Sl.of_blk h mm (fun _ _ => rfl) ⟨[], encC_flat _ _⟩)) ?_; apply TL_nil; apply TQ_any
          refine TA_stepL [4] (by kernel_rfl) rfl ⟨?_, trivial⟩
          change TL _ _ _ _ _ _ _ _ _ _ _
          refine r1 ?_; apply TL_nil; apply TQ_any
          refine TA_stepL [5, 6] (by kernel_rfl) rfl ⟨?_, ?_, trivial⟩
          · change TL _ _ _ _ _ _ _ _ _ _ _
            refine r1 ?_; apply TL_nil; apply TQ_any
            refine TA_stepL [6, 7] (by kernel_rfl) rfl ⟨?_, ?_, trivial⟩
            · change TL _ _ _ _ _ _ _ _ _ _ _
              refine r1 ?_; apply TL_nil; apply TQ_any
              refine TA_stepL [7] (by kernel_rfl) rfl ⟨?_, trivial⟩
              change TL _ _ _ _ _ _ _ _ _ _ _
              refine r1 ?_; apply TL_nil; apply TQ_any
              refine TA_stepL [8] (by kernel_rfl) rfl ⟨?_, trivial⟩
              change TL _ _ _ _ _ _ _ _ _ _ _
              refine r1 ?_; apply TL_nil; apply TQ_any
              refine TA_done (by kernel_rfl) ?_
              exact TQ_mid () trivial sb (fun w h => h.sub (List.Sublist.cons _ (List.Sublist.refl _)))
            · change TL _ _ _ _ _ _ _ _ _ _ _
              refine r1 ?_; apply TL_nil; apply TQ_any
              refine TA_stepL [6] (by kernel_rfl) rfl ⟨?_, trivial⟩
              change TL _ _ _ _ _ _ _ _ _ _ _
              refine r1 ?_; apply TL_nil; apply TQ_any
              refine TA_stepL [8] (by kernel_rfl) rfl ⟨?_, trivial⟩
              change TL _ _ _ _ _ _ _ _ _ _ _
              refine r1 ?_; apply TL_nil; apply TQ_any
              refine TA_done (by kernel_rfl) ?_
              exact TQ_mid () trivial sb (fun w h => h.sub (List.Sublist.cons _ (List.Sublist.refl _)))
          · change TL _ _ _ _ _ _ _ _ _ _ _
            refine r1 ?_; apply TL_nil; apply TQ_any
            refine TA_stepL [5] (by kernel_rfl) rfl ⟨?_, trivial⟩
            change TL _ _ _ _ _ _ _ _ _ _ _
            refine r1 ?_; apply TL_nil; apply TQ_any
            refine TA_stepL [7] (by kernel_rfl) rfl ⟨?_, trivial⟩
            change TL _ _ _ _ _ _ _ _ _ _ _
            refine r1 ?_; apply TL_nil; apply TQ_any
            refine TA_stepL [8] (by kernel_rfl) rfl ⟨?_, trivial⟩
            change TL _ _ _ _ _ _ _ _ _ _ _
            refine r1 ?_; apply TL_nil; apply TQ_any
            refine TA_done (by kernel_rfl) ?_
            exact TQ_mid () trivial sb (fun w h => h.sub (List.Sublist.cons _ (List.Sublist.refl _)))
        · change TL _ _ _ _ _ _ _ _ _ _ _
          (refine TL_callN rfl rfl rfl (fun w h => c47 S p (by omega) (by omega) w) ?_; rintro bc -); apply TL_nil; apply TQ_any
          refine TA_stepL [0] (by kernel_rfl) rfl ⟨?_, trivial⟩
          change TL _ _ _ _ _ _ _ _ _ _ _
          refine r1 ?_; apply TL_nil; apply TQ_any
          refine TA_stepL [3] (by kernel_rfl) rfl ⟨?_, trivial⟩
          change TL _ _ _ _ _ _ _ _ _ _ _
          refine TL_callV rfl rfl rfl (fun w h => c46_no S p hS none_ _ _ 0 (by omega) hok w (ha.mono h) (Sl.of_blk h mm (fun _ _ => rfl) ⟨[], encC_flat _ _⟩)) ?_; apply TL_nil; apply TQ_any
          refine TA_stepL [4] (by kernel_rfl) rfl ⟨?_, trivial⟩
          change TL _ _ _ _ _ _ _ _ _ _ _
          refine r1 ?_; apply TL_nil; apply TQ_any
          refine TA_stepL [5, 6] (by kernel_rfl) rfl ⟨?_, ?_, trivial⟩
          · change TL _ _ _ _ _ _ _ _ _ _ _
            refine r1 ?_; apply TL_nil; apply TQ_any
            refine TA_stepL [6, 7] (by kernel_rfl) rfl ⟨?_, ?_, trivial⟩
            · change TL _ _ _ _ _ _ _ _ _ _ _
              refine r1 ?_; apply TL_nil; apply TQ_any
              refine TA_stepL [7] (by kernel_rfl) rfl ⟨?_, trivial⟩
              change TL _ _ _ _ _ _ _ _ _ _ _
              refine r1 ?_; apply TL_nil; apply TQ_any
              refine TA_stepL [8] (by kernel_rfl) rfl ⟨?_, trivial⟩
              change TL _ _ _ _ _ _ _ _ _ _ _
              refine r1 ?_; apply TL_nil; apply TQ_any
              refine TA_done (by kernel_rfl) ?_
              exact TQ_mid () trivial sb (fun w h => h.sub (List.Sublist.cons _ (List.Sublist.refl _)))
            · change TL _ _ _ _ _ _ _ _ _ _ _
              refine r1 ?_; apply TL_nil; apply TQ_any
              refine TA_stepL [6] (by kernel_rfl) rfl ⟨?_, trivial⟩
              change TL _ _ _ _ _ _ _ _ _ _ _
              refine r1 ?_; apply TL_nil; apply TQ_any
              refine TA_stepL [8] (by kernel_rfl) rfl ⟨?_, trivial⟩
              change TL _ _ _ _ _ _ _ _ _ _ _
              refine r1 ?_; apply TL_nil; apply TQ_any
              refine TA_done (by kernel_rfl) ?_
              exact TQ_mid () trivial sb (fun w h => h.sub (List.Sublist.cons _ (List.Sublist.refl _)))
          · change TL _ _ _ _ _ _ _ _ _ _ _
            refine r1 ?_; apply TL_nil; apply TQ_any
            refine TA_stepL [5] (by kernel_rfl) rfl ⟨?_, trivial⟩
            change TL _ _ _ _ _ _ _ _ _ _ _
            refine r1 ?_; apply TL_nil; apply TQ_any
            refine TA_stepL [7] (by kernel_rfl) rfl ⟨?_, trivial⟩
            change TL _ _ _ _ _ _ _ _ _ _ _
            refine r1 ?_; apply TL_nil; apply TQ_any
            refine TA_stepL [8] (by kernel_rfl) rfl ⟨?_, trivial⟩
            change TL _ _ _ _ _ _ _ _ _ _ _
            refine r1 ?_; apply TL_nil; apply TQ_any
            refine TA_done (by kernel_rfl) ?_
            exact TQ_mid () trivial sb (fun w h => h.sub (List.Sublist.cons _ (List.Sublist.refl _)))
    repeat' (first | refine rn ?_ | (apply TL_box; exact rfl; exact rfl; exact rfl; intro _ _) | (apply TL_alloc; exact rfl; intro _ _) | (apply TL_buildSlice; exact rfl; exact rfl; exact rfl; exact rfl; exact rfl; intro _ _))
    exact TQ_ret2 Try.results19 (RV.celln rfl mm (by rfl)) (RV.tmp rfl) (fun w' hs => ⟨rfl, hs.below⟩)
  | true =>
    have e : fallF S a b = (fallR (tbl S) a.toNat b.toNat, 0) := by unfold fallF; rw [if_neg (not_not_intro hS), if_neg (not_not_intro ⟨hia, hib⟩), if_pos hok]
    rw [e]
    have hB := tbl_B hS hok (i := a.toNat) (k := b.toNat) (by omega) (by omega)
    refine TC_join (σ := Nat × List Nat) (fun q => q.2.length = S.pts.toNat + 1) (fun q => [(1, .int .i64 a), (2, .int .i64 b), (3, .pointer (some ⟨b3, 0, none⟩)), (6, .pointer (some ⟨b6, 0, none⟩)), (8, .slice (some ⟨q.1, 0, none⟩) (S.pts.toNat + 1) (S.pts.toNat + 1)), (9, .bool true)]) (fun q => (q.1, .cells (ocells (S.pts.toNat + 1) q.2 0) 46) :: (rowsH 3 (S.pts.toNat + 1) (tbl S) q.2 0 ++ [(b6, .cells [.int .i64 0, .int .i64 0] 36), (b3, .cells (encSv S p) 26)])) ?_ (fun q hbl => ?_)
    · refine TC_any Try.mixed ?_
      refine TA_stepL [0, 1] (by kernel_rfl) rfl ⟨?_, ?_, trivial⟩
      · change TL _ _ _ _ _ _ _ _ _ _ _
        refine r1 ?_; apply TL_nil; apply TQ_any
        refine TA_stepL [1] (by kernel_rfl) rfl ⟨?_, trivial⟩
        change TL _ _ _ _ _ _ _ _ _ _ _
        refine r1 ?_; apply TL_nil; apply TQ_any
        refine TA_stepL [2] (by kernel_rfl) rfl ⟨?_, trivial⟩
        change TL _ _ _ _ _ _ _ _ _ _ _
        (refine TL_callN rfl rfl rfl (fun w h => c47 S p (by omega) (by omega) w) ?_; rintro bc -); apply TL_nil; apply TQ_any
        refine TA_stepL [3] (by kernel_rfl) rfl ⟨?_, trivial⟩
        change TL _ _ _ _ _ _ _ _ _ _ _
        (refine TL_callN rfl rfl rfl (fun w h => c46_ok S p hS none_ _ _ 0 (by omega) hok w (ha.mono h) (Sl.of_blk h mm (fun _ _ => rfl) ⟨[], encC_flat _ _⟩)) ?_; rintro ⟨bo, bs⟩ hbl); apply TL_nil; apply TQ_any
        refine TA_stepL [4] (by kernel_rfl) rfl ⟨?_, trivial⟩
        change TL _ _ _ _ _ _ _ _ _ _ _
        refine r1 ?_; apply TL_nil; apply TQ_any
        refine TA_stepL [5, 6] (by kernel_rfl) rfl ⟨?_, ?_, trivial⟩
        · change TL _ _ _ _ _ _ _ _ _ _ _
          refine r1 ?_; apply TL_nil; apply TQ_any
          refine TA_stepL [6, 7] (by kernel_rfl) rfl ⟨?_, ?_, trivial⟩
          · change TL _ _ _ _ _ _ _ _ _ _ _
            refine r1 ?_; apply TL_nil; apply TQ_any
            refine TA_stepL [7] (by kernel_rfl) rfl ⟨?_, trivial⟩
            change TL _ _ _ _ _ _ _ _ _ _ _
            refine r1 ?_; apply TL_nil; apply TQ_any
            refine TA_stepL [8] (by kernel_rfl) rfl ⟨?_, trivial⟩
            change TL _ _ _ _ _ _ _ _ _ _ _
            refine r1 ?_; apply TL_nil; apply TQ_any
            refine TA_done (by kernel_rfl) ?_
            exact TQ_mid (bo, bs) hbl sb (fun w h => h.sub (List.Sublist.cons_cons _ (List.Sublist.append_left (List.Sublist.cons _ (List.Sublist.refl _)) _)))
          · change TL _ _ _ _ _ _ _ _ _ _ _
            refine r1 ?_; apply TL_nil; apply TQ_any
            refine TA_stepL [6] (by kernel_rfl) rfl ⟨?_, trivial⟩
            change TL _ _ _ _ _ _ _ _ _ _ _
            refine r1 ?_; apply TL_nil; apply TQ_any
            refine TA_stepL [8] (by kernel_rfl) rfl ⟨?_, trivial⟩
            change TL _ _ _ _ _ _ _ _ _ _ _
            refine r1 ?_; apply TL_nil; apply TQ_any
            refine TA_done (by kernel_rfl) ?_
            exact TQ_mid (bo, bs) hbl sb (fun w h => h.sub (List.Sublist.cons_cons _ (List.Sublist.append_left (List.Sublist.cons _ (List.Sublist.refl _)) _)))
        · change TL _ _ _ _ _ _ _ _ _ _ _
          refine r1 ?_; apply TL_nil; apply TQ_any
          refine TA_stepL [5] (by kernel_rfl) rfl ⟨?_, trivial⟩
          change TL _ _ _ _ _ _ _ _ _ _ _
          refine r1 ?_; apply TL_nil; apply TQ_any
          refine TA_stepL [7] (by kernel_rfl) rfl ⟨?_, trivial⟩
          change TL _ _ _ _ _ _ _ _ _ _ _
          refine r1 ?_; apply TL_nil; apply TQ_any
          refine TA_stepL [8] (by kernel_rfl) rfl ⟨?_, trivial⟩
          change TL _ _ _ _ _ _ _ _ _ _ _
          refine r1 ?_; apply TL_nil; apply TQ_any
          refine TA_done (by kernel_rfl) ?_
          exact TQ_mid (bo, bs) hbl sb (fun w h => h.sub (List.Sublist.cons_cons _ (List.Sublist.append_left (List.Sublist.cons _ (List.Sublist.refl _)) _)))
      · change TL _ _ _ _ _ _ _ _ _ _ _
        refine r1 ?_; apply TL_nil; apply TQ_any
        refine TA_stepL [0, 2] (by kernel_rfl) rfl ⟨?_, ?_, trivial⟩
        · change TL _ _ _ _ _ _ _ _ _ _ _
          refine r1 ?_; apply TL_nil; apply TQ_any
          refine TA_stepL [2] (by kernel_rfl) rfl ⟨?_, trivial⟩
          change TL _ _ _ _ _ _ _ _ _ _ _
          (refine TL_callN rfl rfl rfl (fun w h => c47 S p (by omega) (by omega) w) ?_; rintro bc -); apply TL_nil; apply TQ_any
          refine TA_stepL [3] (by kernel_rfl) rfl ⟨?_, trivial⟩
          change TL _ _ _ _ _ _ _ _ _ _ _
          (refine TL_callN rfl rfl rfl (fun w h => c46_ok S p hS none_ _ _ 0 (by omega) hok w (ha.mono h) (Sl.of_blk h mm (fun _ _ => rfl) ⟨[], encC_flat _ _⟩)) ?_; rintro ⟨bo, bs⟩ hbl); apply TL_nil; apply TQ_any
          refine TA_stepL [4] (by kernel_rfl) rfl ⟨?_, trivial⟩
          change TL _ _ _ _ _ _ _ _ _ _ _
          refine r1 ?_; apply TL_nil; apply TQ_any
          refine TA_stepL [5, 6] (by kernel_rfl) rfl ⟨?_, ?_, trivial⟩
          · change TL _ _ _ _ _ _ _ _ _ _ _
            refine r1 ?_; apply TL_nil; apply TQ_any
            refine TA_stepL [6, 7] (by kernel_rfl) rfl ⟨?_, ?_, trivial⟩
            · change TL _ _ _ _ _ _ _ _ _ _ _
              refine r1 ?_; apply TL_nil; apply TQ_any
              refine TA_stepL [7] (by kernel_rfl) rfl ⟨?_, trivial⟩
              change TL _ _ _ _ _ _ _ _ _ _ _
              refine r1 ?_; apply TL_nil; apply TQ_any
              refine TA_stepL [8] (by kernel_rfl) rfl ⟨?_, trivial⟩
              change TL _ _ _ _ _ _ _ _ _ _ _
              refine r1 ?_; apply TL_nil; apply TQ_any
              refine TA_done (by kernel_rfl) ?_
              exact TQ_mid (bo, bs) hbl sb (fun w h => h.sub (List.Sublist.cons_cons _ (List.Sublist.append_left (List.Sublist.cons _ (List.Sublist.refl _)) _)))
            · change TL _ _ _ _ _ _ _ _ _ _ _
              refine r1 ?_; apply TL_nil; apply TQ_any
              refine TA_stepL [6] (by kernel_rfl) rfl ⟨?_, trivial⟩
              change TL _ _ _ _ _ _ _ _ _ _ _
              refine r1 ?_; apply TL_nil; apply TQ_any
              refine TA_stepL [8] (by kernel_rfl) rfl ⟨?_, trivial⟩
              change TL _ _ _ _ _ _ _ _ _ _ _
              refine r1 ?_; apply TL_nil; apply TQ_any
              refine TA_done (by kernel_rfl) ?_
              exact TQ_mid (bo, bs) hbl sb (fun w h => h.sub (List.Sublist.cons_cons _ (List.Sublist.append_left (List.Sublist.cons _ (List.Sublist.refl _)) _)))
          · change TL _ _ _ _ _ _ _ _ _ _ _
            refine r1 ?_; apply TL_nil; apply TQ_any
            refine TA_stepL [5] (by kernel_rfl) rfl ⟨?_, trivial⟩
            change TL _ _ _ _ _ _ _ _ _ _ _
            refine r1 ?_; apply TL_nil; apply TQ_any
            refine TA_stepL [7] (by kernel_rfl) rfl ⟨?_, trivial⟩
            change TL _ _ _ _ _ _ _ _ _ _ _
            refine r1 ?_; apply TL_nil; apply TQ_any
            refine TA_stepL [8] (by kernel_rfl) rfl ⟨?_, trivial⟩
            change TL _ _ _ _ _ _ _ _ _ _ _
            refine r1 ?_; apply TL_nil; apply TQ_any
            refine TA_done (by kernel_rfl) ?_
            exact TQ_mid (bo, bs) hbl sb (fun w h => h.sub (List.Sublist.cons_cons _ (List.Sublist.append_left (List.Sublist.cons _ (List.Sublist.refl _)) _)))
        · change TL _ _ _ _ _ _ _ _ _ _ _
          (refine TL_callN rfl rfl rfl (fun w h => c47 S p (by omega) (by omega) w) ?_; rintro bc -); apply TL_nil; apply TQ_any
          refine TA_stepL [0] (by kernel_rfl) rfl ⟨?_, trivial⟩
          change TL _ _ _ _ _ _ _ _ _ _ _
          refine r1 ?_; apply TL_nil; apply TQ_any
          refine TA_stepL [3] (by kernel_rfl) rfl ⟨?_, trivial⟩
          change TL _ _ _ _ _ _ _ _ _ _ _
          (refine TL_callN rfl rfl rfl (fun w h => c46_ok S p hS none_ _ _ 0 (by omega) hok w (ha.mono h) (Sl.of_blk h mm (fun _ _ => rfl) ⟨[], encC_flat _ _⟩)) ?_; rintro ⟨bo, bs⟩ hbl); apply TL_nil; apply TQ_any
          refine TA_stepL [4] (by kernel_rfl) rfl ⟨?_, trivial⟩
          change TL _ _ _ _ _ _ _ _ _ _ _
          refine r1 ?_; apply TL_nil; apply TQ_any
          refine TA_stepL [5, 6] (by kernel_rfl) rfl ⟨?_, ?_, trivial⟩
          · change TL _ _ _ _ _ _ _ _ _ _ _
            refine r1 ?_; apply TL_nil; apply TQ_any
            refine TA_stepL [6, 7] (by kernel_rfl) rfl ⟨?_, ?_, trivial⟩
            · change TL _ _ _ _ _ _ _ _ _ _ _
              refine r1 ?_; apply TL_nil; apply TQ_any
              refine TA_stepL [7] (by kernel_rfl) rfl ⟨?_, trivial⟩
              change TL _ _ _ _ _ _ _ _ _ _ _
              refine r1 ?_; apply TL_nil; apply TQ_any
              refine TA_stepL [8] (by kernel_rfl) rfl ⟨?_, trivial⟩
              change TL _ _ _ _ _ _ _ _ _ _ _
              refine r1 ?_; apply TL_nil; apply TQ_any
              refine TA_done (by kernel_rfl) ?_
              exact TQ_mid (bo, bs) hbl sb (fun w h => h.sub (List.Sublist.cons_cons _ (List.Sublist.append_left (List.Sublist.cons _ (List.Sublist.refl _)) _)))
            · change TL _ _ _ _ _ _ _ _ _ _ _
              refine r1 ?_; apply TL_nil; apply TQ_any
              refine TA_stepL [6] (by kernel_rfl) rfl ⟨?_, trivial⟩
              change TL _ _ _ _ _ _ _ _ _ _ _
              refine r1 ?_; apply TL_nil; apply TQ_any
              refine TA_stepL [8] (by kernel_rfl) rfl ⟨?_, trivial⟩
              change TL _ _ _ _ _ _ _ _ _ _ _
              refine r1 ?_; apply TL_nil; apply TQ_any
              refine TA_done (by kernel_rfl) ?_
              exact TQ_mid (bo, bs) hbl sb (fun w h => h.sub (List.Sublist.cons_cons _ (List.Sublist.append_left (List.Sublist.cons _ (List.Sublist.refl _)) _)))
          · change TL _ _ _ _ _ _ _ _ _ _ _
            refine r1 ?_; apply TL_nil; apply TQ_any
            refine TA_stepL [5] (by kernel_rfl) rfl ⟨?_, trivial⟩
            change TL _ _ _ _ _ _ _ _ _ _ _
            refine r1 ?_; apply TL_nil; apply TQ_any
            refine TA_stepL [7] (by kernel_rfl) rfl ⟨?_, trivial⟩
            change TL _ _ _ _ _ _ _ _ _ _ _
            refine r1 ?_; apply TL_nil; apply TQ_any
            refine TA_stepL [8] (by kernel_rfl) rfl ⟨?_, trivial⟩
            change TL _ _ _ _ _ _ _ _ _ _ _
            refine r1 ?_; apply TL_nil; apply TQ_any
            refine TA_done (by kernel_rfl) ?_
            exact TQ_mid (bo, bs) hbl sb (fun w h => h.sub (List.Sublist.cons_cons _ (List.Sublist.append_left (List.Sublist.cons _ (List.Sublist.refl _)) _)))
    obtain ⟨bo, bs⟩ := q
    dsimp only at hbl ⊢
    refine TC_hperm (H' := (b6, .cells [.int .i64 0, .int .i64 0] 36) :: (b3, .cells (encSv S p) 26) :: (bo, .cells (ocells (S.pts.toNat + 1) bs 0) 46) :: rowsH 3 (S.pts.toNat + 1) (tbl S) bs 0) ?_ ?_
    · exact (List.Perm.cons _ (List.Perm.swap _ _ _)).trans ((List.Perm.swap _ _ _).trans (List.Perm.cons _ ((List.Perm.refl _ : List.Perm (_ :: _ :: _) _).trans (List.perm_append_comm (l₁ := [_, _])))))
    repeat' (first | refine rn ?_ | (apply TL_box; exact rfl; exact rfl; exact rfl; intro _ _) | (apply TL_alloc; exact rfl; intro _ _) | (apply TL_buildSlice; exact rfl; exact rfl; exact rfl; exact rfl; exact rfl; intro _ _))
    refine TL_call rfl rfl rfl _ _ _ (fun w h => c50 (tbl S) (S.pts.toNat + 1) bo bs hbl a b (by omega) (by omega) (by omega) _ (List.Mem.tail _ (List.Mem.tail _ (List.Mem.head _))) (fun i b hb => List.Mem.tail _ (List.Mem.tail _ (List.Mem.tail _ (rowsH_mem0 hb)))) w h) (fun _ _ => ?_)
    repeat' (first | refine rn ?_ | (apply TL_box; exact rfl; exact rfl; exact rfl; intro _ _) | (apply TL_alloc; exact rfl; intro _ _) | (apply TL_buildSlice; exact rfl; exact rfl; exact rfl; exact rfl; exact rfl; intro _ _))
    exact TQ_ret2 Try.results19 (RV.celln rfl mm (by rfl)) (RV.tmp rfl) (fun w' hs => ⟨rfl, hs.below⟩)
theorem c3 (S : Sv) (p : Pl) (a b : Int) (h1 : S.shots.length ≤ 9223372036854775807) (h2 : S.marks.length ≤ 9223372036854775807) (h3 : S.thr.length ≤ 9223372036854775807) (w : World) (ha : SvAt w S p) :
    Calls Try.prog 3 #[.agg (encSv S p).toArray, .int .i64 a, .int .i64 b] w (RetV w (.bool true)) := by
  refine enter (args := [.agg (encSv S p).toArray, .int .i64 a, .int .i64 b]) Try.func3 rfl Try.ntmps3 rfl (SH.refl _) ?_
  repeat' (first | refine rn ?_ | (apply TL_box; exact rfl; exact rfl; exact rfl; intro _ _) | (apply TL_alloc; exact rfl; intro _ _) | (apply TL_buildSlice; exact rfl; exact rfl; exact rfl; exact rfl; exact rfl; intro _ _))
  rename_i b3 _
  refine TL_callV rfl rfl rfl (fun w _ => c14 S p h1 h2 h3 w) ?_
  repeat' (first | refine rn ?_ | (apply TL_box; exact rfl; exact rfl; exact rfl; intro _ _) | (apply TL_alloc; exact rfl; intro _ _) | (apply TL_buildSlice; exact rfl; exact rfl; exact rfl; exact rfl; exact rfl; intro _ _))
  refine TC_cond_dec rfl (fun g1 => ?_) (fun g1 => ?_)
  · repeat' (first | refine rn ?_ | (apply TL_box; exact rfl; exact rfl; exact rfl; intro _ _) | (apply TL_alloc; exact rfl; intro _ _) | (apply TL_buildSlice; exact rfl; exact rfl; exact rfl; exact rfl; exact rfl; intro _ _))
    exact TQ_ret1 Try.results3 (RV.tmp rfl) (fun w' hs => ⟨rfl, hs.below⟩)
  unfold GreatS at g1
  rw [not_or, not_or] at g1
  repeat' (first | refine rn ?_ | (apply TL_box; exact rfl; exact rfl; exact rfl; intro _ _) | (apply TL_alloc; exact rfl; intro _ _) | (apply TL_buildSlice; exact rfl; exact rfl; exact rfl; exact rfl; exact rfl; intro _ _))
  refine TL_callN rfl rfl rfl (fun w h => c15 S p (by omega) (by omega) (by omega) w (ha.mono h)) ?_
  rintro q hq
  repeat' (first | refine rn ?_ | (apply TL_box; exact rfl; exact rfl; exact rfl; intro _ _) | (apply TL_alloc; exact rfl; intro _ _) | (apply TL_buildSlice; exact rfl; exact rfl; exact rfl; exact rfl; exact rfl; intro _ _))
  refine TL_callN rfl rfl rfl (fun w h => c16 S q.p (by omega) (by omega) (by omega) w (hq.sv h (fun x hx => List.mem_cons_of_mem _ (List.mem_append_left _ hx)))) ?_
  rintro ⟨so1, sc1, ob1⟩ hrow1
  dsimp only at hrow1 ⊢
  repeat' (first | refine rn ?_ | (apply TL_box; exact rfl; exact rfl; exact rfl; intro _ _) | (apply TL_alloc; exact rfl; intro _ _) | (apply TL_buildSlice; exact rfl; exact rfl; exact rfl; exact rfl; exact rfl; intro _ _))
  refine TL_callN rfl rfl rfl (fun w h => c17 S p (by omega) (by omega) (by omega) w (ha.mono h)) ?_
  rintro ⟨so2, sc2, ob2⟩ hrow2
  dsimp only at hrow2 ⊢
  repeat' (first | refine rn ?_ | (apply TL_box; exact rfl; exact rfl; exact rfl; intro _ _) | (apply TL_alloc; exact rfl; intro _ _) | (apply TL_buildSlice; exact rfl; exact rfl; exact rfl; exact rfl; exact rfl; intro _ _))
  refine TL_callV rfl rfl rfl (fun w h => c18 S q.p a b (by omega) (by omega) (by omega) w (hq.sv h (fun x hx => by repeat (first | exact List.mem_append_left _ hx | apply List.mem_append_right | apply List.mem_cons_of_mem)))) ?_
  repeat' (first | refine rn ?_ | (apply TL_box; exact rfl; exact rfl; exact rfl; intro _ _) | (apply TL_alloc; exact rfl; intro _ _) | (apply TL_buildSlice; exact rfl; exact rfl; exact rfl; exact rfl; exact rfl; intro _ _))
  refine TL_callV rfl rfl rfl (fun w h => c19 S p a b (by omega) (by omega) (by omega) w (ha.mono h)) ?_
  repeat' (first | refine rn ?_ | (apply TL_box; exact rfl; exact rfl; exact rfl; intro _ _) | (apply TL_alloc; exact rfl; intro _ _) | (apply TL_buildSlice; exact rfl; exact rfl; exact rfl; exact rfl; exact rfl; intro _ _))
  have hlen : (heightsF S).1.length ≤ 1000000 := by
    unfold heightsF
    split
    · simp
    · rename_i hS
      have hp := (Classical.not_not.1 hS).1
      simp only [In] at hp
      split
      · simp; omega
      · simp
  apply TC_draw 30; kernel_rfl; exact Try.mixed
  · (refine' pv ?_; rotate_left)
    (refine' PG.val rfl rfl (by intro _X; refine TL_callV rfl rfl rfl (fun w h => c20 S q.p (by omega) (by omega) (by omega) w (hq.sv h (fun x hx => by repeat (first | exact List.mem_append_left _ hx | apply List.mem_append_right | apply List.mem_cons_of_mem)))) ?_; exact qe) ?_; rotate_left)
    (refine' pv ?_; rotate_left)
    (refine' PG.val rfl rfl (by intro _X; refine TL_callV rfl rfl rfl (fun w h => c21 S p (by omega) (by omega) (by omega) w (ha.mono h)) ?_; exact qe) ?_; rotate_left)
    (refine' PG.val rfl rfl (by intro _X; refine TL_eql_same rfl rfl rfl ?_; exact qe) ?_; rotate_left)
    (refine' pv ?_; rotate_left)
    (refine' pg ?_; rotate_left)
    (refine' pg ?_; rotate_left)
    (refine' PG.val rfl rfl (by intro _X; (refine TL_guard_yes rfl rfl rfl ?_); refine TL_callV rfl rfl rfl (fun w h => c22 (heightsF S).1 so1 so2 sc1 sc2 hlen w (hrow1.sl h (fun x hx => by repeat (first | exact List.mem_append_left _ hx | apply List.mem_append_right | apply List.mem_cons_of_mem))) (hrow2.sl h (fun x hx => by repeat (first | exact List.mem_append_left _ hx | apply List.mem_append_right | apply List.mem_cons_of_mem)))) ?_; exact qe) ?_; rotate_left)
    iterate 2 (refine' pv ?_; rotate_left)
    iterate 2 (refine' pg ?_; rotate_left)
    (refine' PG.val rfl rfl (by intro _X; (refine TL_guard_yes rfl rfl rfl ?_); refine TL_eql_same rfl rfl rfl ?_; exact qe) ?_; rotate_left)
    iterate 2 (refine' pv ?_; rotate_left)
    iterate 2 (refine' pg ?_; rotate_left)
    (refine' PG.val rfl rfl (by intro _X; (refine TL_guard_yes rfl rfl rfl ?_); refine TL_eqlS_same rfl rfl rfl rfl rfl rfl rfl ?_; exact qe) ?_; rotate_left)
    iterate 2 (refine' pv ?_; rotate_left)
    iterate 2 (refine' pg ?_; rotate_left)
    (refine' PG.val rfl rfl (by intro _X; (refine TL_guard_yes rfl rfl rfl ?_); refine TL_eql_same rfl rfl rfl ?_; exact qe) ?_; rotate_left)
    iterate 2 (refine' pv ?_; rotate_left)
    iterate 2 (refine' pg ?_; rotate_left)
    (refine' PG.val rfl rfl (by intro _X; (refine TL_guard_yes rfl rfl rfl ?_); refine TL_callV rfl rfl rfl (fun w h => c23 S q.p p (by omega) (by omega) (by omega) w (hq.sv h (fun x hx => by repeat (first | exact List.mem_append_left _ hx | apply List.mem_append_right | apply List.mem_cons_of_mem))) (ha.mono h)) ?_; exact qe) ?_; rotate_left)
    (refine' pv ?_; rotate_left)
    exact PG.nil
  change TL _ _ _ _ _ _ _ _ _ _ _
  repeat' (first | refine rn ?_ | (apply TL_box; exact rfl; exact rfl; exact rfl; intro _ _) | (apply TL_alloc; exact rfl; intro _ _) | (apply TL_buildSlice; exact rfl; exact rfl; exact rfl; exact rfl; exact rfl; intro _ _))
  exact TQ_ret1 Try.results3 (RV.tmp rfl) (fun w' hs => ⟨rfl, hs.below⟩)
end Go.Proofs.Ytoolblbdmmiahaa
