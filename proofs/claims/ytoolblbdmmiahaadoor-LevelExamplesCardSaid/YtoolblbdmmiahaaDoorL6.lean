/- Walks: the solved table. -/
import Derived.Test.YtoolblbdmmiahaaDoorL5
namespace Go.Proofs.YtoolblbdmmiahaaDoor
open Go Go.Eng Go.RowKit Go.Proofs
set_option maxHeartbeats 4000000
set_option maxRecDepth 10000
attribute [local irreducible] TL TC TQ

def prevB (L : List Bd) : Nat → Bd
  | 0 => (-1, 0, 0)
  | j + 1 => L.getD j (0, 0, 0)
theorem foldB_succ {L : List Bd} {j : Nat} (hj : j < L.length) (T : Tb) : foldB (L.take (j + 1)) T = stepB (foldB (L.take j) T) (L.getD j (0, 0, 0)) := by
  rw [List.take_add_one, List.getElem?_eq_getElem hj, foldB_app, List.getD_eq_getElem?_getD, List.getElem?_eq_getElem hj]; rfl
theorem permX {x : Nat × Blk} {hm G' X G : Hp} : (x :: (hm ++ (G' ++ (X ++ G)))).Perm (G' ++ (x :: (X ++ (hm ++ G)))) := by
  refine List.Perm.trans ?_ List.perm_middle.symm
  refine List.Perm.cons _ ?_
  have h : (hm ++ (G' ++ X)).Perm (G' ++ X ++ hm) := List.perm_append_comm
  have h2 := h.append_right G
  simpa only [List.append_assoc] using h2
theorem c56 {B : Nat} {w0 : World} (S : Sv) (p : Pl) (mo : Option Nat) (o : Nat → Bool) (wd : Int) (hm G : Hp) (hS : OkSv S) (ho : OutH mo o hm) (hwd : 0 ≤ wd ∧ wd ≤ 40000000) (hsv : ∀ {w : World} {H : Hp}, SH B w0 w H → SvAt w S p) (w : World) (hs : SH B w0 w (hm ++ G)) :
    Calls Tryd.prog 24 #[.agg (encY S p mo wd).toArray] w (RetP B w0 (fun b : Nat => .tuple #[.pointer (some ⟨b, 0, none⟩), .bool (solveR S o wd).2]) (fun b => (b, .cells (encT 21 441 (solveR S o wd).1) 76) :: (hm ++ G)) (fun _ => True)) := by
  have hp := hS.1
  simp only [In] at hp
  have hbds := bds_ok hS (o := o) hwd
  have hfold := fold_bds hS o wd
  have hdiag := diag_rdT hS o wd (rds S).length
  have hBT0 : BT (rdT S o wd (rds S).length) 20000000 := by rw [← hfold]; exact fold_B (fun b hb => (hbds b hb).2.2.1) init_B
  have hsolve : solveR S o wd = fwAll (S.pts.toNat + 1) (S.pts.toNat + 1) (rdT S o wd (rds S).length) := rfl
  generalize rdT S o wd (rds S).length = T0 at hfold hdiag hBT0 hsolve
  refine enterM (args := [.agg (encY S p mo wd).toArray]) Tryd.func24 rfl Tryd.ntmps24 rfl hs ?_
  repeat' (first | refine rn ?_ | (apply TL_box; exact rfl; exact rfl; exact rfl; intro _ _) | (apply TL_alloc; exact rfl; intro _ _) | (apply TL_buildSlice; exact rfl; exact rfl; exact rfl; exact rfl; exact rfl; intro _ _))
  rename_i b1 _ b2 _
  refine TC_scope ?_
  repeat' (first | refine rn ?_ | (apply TL_box; exact rfl; exact rfl; exact rfl; intro _ _) | (apply TL_alloc; exact rfl; intro _ _) | (apply TL_buildSlice; exact rfl; exact rfl; exact rfl; exact rfl; exact rfl; intro _ _))
  rename_i b13 _
  refine TC_loop (σ := Nat) (fun i => i ≤ 21) (fun i => [(1, .pointer (some ⟨b1, 0, none⟩)), (2, .pointer (some ⟨b2, 0, none⟩)), (3, .bool false), (14, .int .i64 i)]) (fun i => (b13, .cells (encT 21 441 (initK i 0)) 76) :: (b2, .cells [.pointer (some ⟨b13, 0, none⟩)] 54) :: (b1, .cells (encY S p mo wd) 66) :: (hm ++ G)) (fun i => 21 - i) 0 (by omega) sb (fun w h => by rw [initK_zero, ← encT_zero]; exact h) (fun i hi => ?_)
  repeat' (first | refine rn ?_ | (apply TL_box; exact rfl; exact rfl; exact rfl; intro _ _) | (apply TL_alloc; exact rfl; intro _ _) | (apply TL_buildSlice; exact rfl; exact rfl; exact rfl; exact rfl; exact rfl; intro _ _))
  refine TC_cond_dec rfl (fun h1 => ?_) (fun h1 => ?_)
  · have hlt : i < 21 := by omega
    repeat' (first | refine rn ?_ | (apply TL_box; exact rfl; exact rfl; exact rfl; intro _ _) | (apply TL_alloc; exact rfl; intro _ _) | (apply TL_buildSlice; exact rfl; exact rfl; exact rfl; exact rfl; exact rfl; intro _ _))
    refine TC_loop (σ := Nat) (fun k => k ≤ 21) (fun k => [(1, .pointer (some ⟨b1, 0, none⟩)), (2, .pointer (some ⟨b2, 0, none⟩)), (3, .bool false), (14, .int .i64 i), (4, .int .i64 i), (17, .int .i64 k)]) (fun k => (b13, .cells (encT 21 441 (initK i k)) 76) :: (b2, .cells [.pointer (some ⟨b13, 0, none⟩)] 54) :: (b1, .cells (encY S p mo wd) 66) :: (hm ++ G)) (fun k => 21 - k) 0 (by omega) sb (fun w h => h) (fun k hk => ?_)
    repeat' (first | refine rn ?_ | (apply TL_box; exact rfl; exact rfl; exact rfl; intro _ _) | (apply TL_alloc; exact rfl; intro _ _) | (apply TL_buildSlice; exact rfl; exact rfl; exact rfl; exact rfl; exact rfl; intro _ _))
    refine TC_cond_dec rfl (fun h2 => ?_) (fun h2 => ?_)
    · have hlk : k < 21 := by omega
      repeat' (first | refine rn ?_ | (apply TL_box; exact rfl; exact rfl; exact rfl; intro _ _) | (apply TL_alloc; exact rfl; intro _ _) | (apply TL_buildSlice; exact rfl; exact rfl; exact rfl; exact rfl; exact rfl; intro _ _))
      refine TC_cond_dec rfl (fun h3 => ?_) (fun h3 => ?_)
      · repeat' (first | refine rn ?_ | (apply TL_box; exact rfl; exact rfl; exact rfl; intro _ _) | (apply TL_alloc; exact rfl; intro _ _) | (apply TL_buildSlice; exact rfl; exact rfl; exact rfl; exact rfl; exact rfl; intro _ _))
        refine TL_nilCheck rfl rfl ?_
        refine TL_indexAddrA i rfl rfl rfl rfl hlt ?_
        refine TL_indexAddrA k rfl rfl rfl rfl hlk ?_
        refine TL_store rfl rfl rfl rfl rfl up (encT_put (c := 21) (n := 441) (i := i) (k := k) _ hlk (by omega) 20000000 (by omega)) ?_
        rw [initK_upd (by omega)]
        repeat' (first | refine rn ?_ | (apply TL_box; exact rfl; exact rfl; exact rfl; intro _ _) | (apply TL_alloc; exact rfl; intro _ _) | (apply TL_buildSlice; exact rfl; exact rfl; exact rfl; exact rfl; exact rfl; intro _ _))
        refine TQ_round (k + 1) hlk (by omega) sb (fun w h => h)
      · have hik : i = k := by omega
        subst hik
        repeat' (first | refine rn ?_ | (apply TL_box; exact rfl; exact rfl; exact rfl; intro _ _) | (apply TL_alloc; exact rfl; intro _ _) | (apply TL_buildSlice; exact rfl; exact rfl; exact rfl; exact rfl; exact rfl; intro _ _))
        refine TQ_round (i + 1) hlk (by omega) sb (fun w h => by rw [← initK_same]; exact h)
    · have hk2 : k = 21 := by omega
      subst hk2
      repeat' (first | refine rn ?_ | (apply TL_box; exact rfl; exact rfl; exact rfl; intro _ _) | (apply TL_alloc; exact rfl; intro _ _) | (apply TL_buildSlice; exact rfl; exact rfl; exact rfl; exact rfl; exact rfl; intro _ _))
      refine TQ_round (i + 1) hlt (by omega) sb (fun w h => by rw [← initK_row]; exact h)
  have hi2 : i = 21 := by omega
  subst hi2
  clear h1 hi
  rw [initK_all]
  repeat' (first | refine rn ?_ | (apply TL_box; exact rfl; exact rfl; exact rfl; intro _ _) | (apply TL_alloc; exact rfl; intro _ _) | (apply TL_buildSlice; exact rfl; exact rfl; exact rfl; exact rfl; exact rfl; intro _ _))
  rename_i b6 _
  refine TL_callN rfl rfl rfl (fun w h => c67 S p mo wd w) ?_
  rintro b67 -
  dsimp only
  repeat' (first | refine rn ?_ | (apply TL_box; exact rfl; exact rfl; exact rfl; intro _ _) | (apply TL_alloc; exact rfl; intro _ _) | (apply TL_buildSlice; exact rfl; exact rfl; exact rfl; exact rfl; exact rfl; intro _ _))
  refine TC_range (ps := [34]) (k := 37) rfl rfl (bds S o wd).length (fun j => [.agg (encBd ((bds S o wd).getD j (0, 0, 0))).toArray])
    (fun j => (b67, .cells (encY S p mo wd) 66) :: (([(b6, .cells (encBd (prevB (bds S o wd) j)) 78), (b13, .cells (encT 21 441 (foldB ((bds S o wd).take j) init0)) 76), (b2, .cells [.pointer (some ⟨b13, 0, none⟩)] 54), (b1, .cells (encY S p mo wd) 66)] : Hp) ++ (hm ++ G))) (fun j => rfl) (fun w h => h) ?_ ?_ ?_
  · intro lp Dd rec j G' hj
    have hbm : (bds S o wd).getD j (0, 0, 0) ∈ bds S o wd := by rw [List.getD_eq_getElem?_getD, List.getElem?_eq_getElem hj]; exact List.getElem_mem hj
    have hbo := hbds _ hbm
    have hsucc := foldB_succ hj init0
    have hidem : ∀ j', j = j' + 1 → (bds S o wd).getD j (0, 0, 0) = (bds S o wd).getD j' (0, 0, 0) → foldB ((bds S o wd).take (j + 1)) init0 = foldB ((bds S o wd).take j) init0 := fun j' hj' e => by
      rw [hsucc, e]; subst hj'; rw [foldB_succ (by omega) init0]; exact lowT_idem _ _ _ _
    have hprev : prevB (bds S o wd) (j + 1) = (bds S o wd).getD j (0, 0, 0) := rfl
    have hcase : (∃ j', j = j' + 1 ∧ prevB (bds S o wd) j = (bds S o wd).getD j' (0, 0, 0)) ∨ prevB (bds S o wd) j = (-1, 0, 0) := by
      cases j with
      | zero => exact .inr rfl
      | succ j => exact .inl ⟨j, rfl, rfl⟩
    rw [hprev]
    generalize prevB (bds S o wd) j = pb at hcase
    generalize (bds S o wd).getD j (0, 0, 0) = b at hbo hsucc hidem
    generalize foldB ((bds S o wd).take j) init0 = T at hsucc hidem
    repeat' (first | refine rn ?_ | (apply TL_box; exact rfl; exact rfl; exact rfl; intro _ _) | (apply TL_alloc; exact rfl; intro _ _) | (apply TL_buildSlice; exact rfl; exact rfl; exact rfl; exact rfl; exact rfl; intro _ _))
    rename_i b7 _
    refine TQ_asg (rec := rec) up ?_
    repeat' (first | refine rn ?_ | (apply TL_box; exact rfl; exact rfl; exact rfl; intro _ _) | (apply TL_alloc; exact rfl; intro _ _) | (apply TL_buildSlice; exact rfl; exact rfl; exact rfl; exact rfl; exact rfl; intro _ _))
    refine TC_cond_dec rfl (fun h1 => ?_) (fun h1 => ?_)
    · have e : b = pb := by
        simp only [List.cons.injEq, and_true] at h1
        exact Prod.ext h1.1 (Prod.ext h1.2.1 h1.2.2)
      have eT : foldB ((bds S o wd).take (j + 1)) init0 = T := by
        rcases hcase with ⟨j', hj', hpb⟩ | hpb
        · exact hidem j' hj' (by rw [e, hpb])
        · rw [e, hpb] at hbo; dsimp only at hbo; omega
      rw [eT, e]
      repeat' (first | refine rn ?_ | (apply TL_box; exact rfl; exact rfl; exact rfl; intro _ _) | (apply TL_alloc; exact rfl; intro _ _) | (apply TL_buildSlice; exact rfl; exact rfl; exact rfl; exact rfl; exact rfl; intro _ _))
      exact TQ_body (fun w h => h.sub (List.Sublist.cons _ (List.Sublist.refl _)))
    · rw [hsucc]
      have hl1 : b.1.toNat < 21 := by omega
      have hl2 : b.2.1.toNat < 21 := by omega
      repeat' (first | refine rn ?_ | (apply TL_box; exact rfl; exact rfl; exact rfl; intro _ _) | (apply TL_alloc; exact rfl; intro _ _) | (apply TL_buildSlice; exact rfl; exact rfl; exact rfl; exact rfl; exact rfl; intro _ _))
      apply TC_draw 19; kernel_rfl; exact Tryd.mixed
      · iterate 10 (refine' pv ?_; rotate_left)
        (refine' PG.val rfl rfl (by intro _X; refine TL_nilCheck rfl rfl ?_; exact qe) ?_; rotate_left)
        (refine' PG.val rfl rfl (by intro _X; refine TL_indexAddrA b.1.toNat rfl rfl rfl (by omega) hl1 ?_; exact qe) ?_; rotate_left)
        (refine' PG.val rfl rfl (by intro _X; refine TL_indexAddrA b.2.1.toNat rfl rfl rfl (by omega) hl2 ?_; exact qe) ?_; rotate_left)
        (refine' PG.val rfl rfl (by intro _X; refine TL_load1 rfl rfl mm (encT_get (c := 21) (n := 441) (i := b.1.toNat) (k := b.2.1.toNat) T hl2 (by omega) (by omega)) ?_; exact qe) ?_; rotate_left)
        iterate 3 (refine' pv ?_; rotate_left)
        (refine' PG.val rfl rfl (by intro _X; refine TL_nilCheck rfl rfl ?_; exact qe) ?_; rotate_left)
        (refine' PG.val rfl rfl (by intro _X; refine TL_indexAddrA b.1.toNat rfl rfl rfl (by omega) hl1 ?_; exact qe) ?_; rotate_left)
        exact PG.nil
      change TL _ _ _ _ _ _ _ _ _ _ _
      refine TL_indexAddrA b.2.1.toNat rfl rfl rfl (by omega) hl2 ?_
      refine TL_store rfl rfl rfl rfl rfl up (encT_put (c := 21) (n := 441) (i := b.1.toNat) (k := b.2.1.toNat) T hl2 (by omega) (min (T b.1.toNat b.2.1.toNat) b.2.2) (by omega)) ?_
      repeat' (first | refine rn ?_ | (apply TL_box; exact rfl; exact rfl; exact rfl; intro _ _) | (apply TL_alloc; exact rfl; intro _ _) | (apply TL_buildSlice; exact rfl; exact rfl; exact rfl; exact rfl; exact rfl; intro _ _))
      exact TQ_body (fun w h => h.sub (List.Sublist.cons _ (List.Sublist.refl _)))
  · intro lp Y G' hY hyld w hs
    exact c72 S p mo o wd hm hS ho hwd b67 lp (fun j => G' ++ (([(b6, .cells (encBd (prevB (bds S o wd) j)) 78), (b13, .cells (encT 21 441 (foldB ((bds S o wd).take j) init0)) 76), (b2, .cells [.pointer (some ⟨b13, 0, none⟩)] 54), (b1, .cells (encY S p mo wd) 66)] : Hp) ++ G)) Y hsv (fun j => by rw [hY]; exact permX) hyld w hs
  intro Dd
  rw [List.take_length, hfold]
  repeat' (first | refine rn ?_ | (apply TL_box; exact rfl; exact rfl; exact rfl; intro _ _) | (apply TL_alloc; exact rfl; intro _ _) | (apply TL_buildSlice; exact rfl; exact rfl; exact rfl; exact rfl; exact rfl; intro _ _))
  refine TC_loop (σ := Nat) (fun j => j ≤ (S.pts.toNat + 1) ∧ (fwAll (S.pts.toNat + 1) j T0).2 = true) (fun j => [(1, .pointer (some ⟨b1, 0, none⟩)), (2, .pointer (some ⟨b2, 0, none⟩)), (3, .bool true), (8, .int .i64 (S.pts + 1)), (63, .int .i64 (S.pts + 1)), (64, .int .i64 j)]) (fun j => (Dd, .obj (.deferred (some []))) :: (b13, .cells (encT 21 441 ((fwAll (S.pts.toNat + 1) j T0).1)) 76) :: (b2, .cells [.pointer (some ⟨b13, 0, none⟩)] 54) :: (hm ++ G)) (fun j => (S.pts.toNat + 1) - j) 0 ⟨Nat.zero_le _, rfl⟩ sb (fun w h => h.sub (by repeat (first | exact List.Sublist.refl _ | apply List.Sublist.cons_cons | apply List.Sublist.cons))) (fun j hj => ?_)
  obtain ⟨hj, hok⟩ := hj
  have hcl := ((fwAll_spec (fun a _ => hdiag a) j hj).1 hok).1
  have hB := fwAll_B (fun a _ => hdiag a) hBT0 j hj hok
  have hpw := pow_small (j := j) (by omega)
  have e1 : fwAll (S.pts.toNat + 1) (j + 1) T0 = (fwRow j (S.pts.toNat + 1) (S.pts.toNat + 1) (fwAll (S.pts.toNat + 1) j T0).1, diagOk (fwRow j (S.pts.toNat + 1) (S.pts.toNat + 1) (fwAll (S.pts.toNat + 1) j T0).1) (S.pts.toNat + 1)) := by rw [fwAll, if_pos hok]
  repeat' (first | refine rn ?_ | (apply TL_box; exact rfl; exact rfl; exact rfl; intro _ _) | (apply TL_alloc; exact rfl; intro _ _) | (apply TL_buildSlice; exact rfl; exact rfl; exact rfl; exact rfl; exact rfl; intro _ _))
  refine TC_cond_dec rfl (fun h1 => ?_) (fun h1 => ?_)
  rotate_left
  · have hj2 : j = (S.pts.toNat + 1) := by omega
    subst hj2
    rw [← hsolve] at hok
    rw [← hsolve]
    repeat' (first | refine rn ?_ | (apply TL_box; exact rfl; exact rfl; exact rfl; intro _ _) | (apply TL_alloc; exact rfl; intro _ _) | (apply TL_buildSlice; exact rfl; exact rfl; exact rfl; exact rfl; exact rfl; intro _ _))
    rw [← hok]
    refine TQ_scope_ret ?_
    exact TQ_leaveM (rs := [.cell 2 54, .tmp 3]) (vs := [.pointer (some ⟨b13, 0, none⟩), .bool (solveR S o wd).2]) (.inl rfl) up Tryd.results24 ⟨RV.cell1 rfl mm (by rfl), RV.tmp rfl, trivial⟩ (fun w' hs => ⟨b13, trivial, rfl, hs.sub (by repeat (first | exact List.Sublist.refl _ | apply List.Sublist.cons_cons | apply List.Sublist.cons))⟩)
  have hlt : j < (S.pts.toNat + 1) := by omega
  have hdj := hcl.diag j hlt
  generalize (fwAll (S.pts.toNat + 1) j T0).1 = T at hcl hB e1 hdj
  obtain ⟨C, hC⟩ : ∃ C : Int, C = 20000000 * 2 ^ j := ⟨_, rfl⟩
  rw [← hC] at hB
  have hC2 : 0 ≤ C ∧ C ≤ 41943040000000 := by omega
  repeat' (first | refine rn ?_ | (apply TL_box; exact rfl; exact rfl; exact rfl; intro _ _) | (apply TL_alloc; exact rfl; intro _ _) | (apply TL_buildSlice; exact rfl; exact rfl; exact rfl; exact rfl; exact rfl; intro _ _))
  refine TC_loop (σ := Nat) (fun i => i ≤ (S.pts.toNat + 1)) (fun i => [(1, .pointer (some ⟨b1, 0, none⟩)), (2, .pointer (some ⟨b2, 0, none⟩)), (3, .bool true), (8, .int .i64 (S.pts + 1)), (63, .int .i64 (S.pts + 1)), (64, .int .i64 j), (9, .int .i64 j), (67, .int .i64 (S.pts + 1)), (68, .int .i64 i)]) (fun i => (Dd, .obj (.deferred (some []))) :: (b13, .cells (encT 21 441 (fwRow j (S.pts.toNat + 1) i T)) 76) :: (b2, .cells [.pointer (some ⟨b13, 0, none⟩)] 54) :: (hm ++ G)) (fun i => (S.pts.toNat + 1) - i) 0 (Nat.zero_le _) sb (fun w h => h) (fun i hi => ?_)
  repeat' (first | refine rn ?_ | (apply TL_box; exact rfl; exact rfl; exact rfl; intro _ _) | (apply TL_alloc; exact rfl; intro _ _) | (apply TL_buildSlice; exact rfl; exact rfl; exact rfl; exact rfl; exact rfl; intro _ _))
  refine TC_cond_dec rfl (fun h2 => ?_) (fun h2 => ?_)
  · have hli : i < (S.pts.toNat + 1) := by omega
    repeat' (first | refine rn ?_ | (apply TL_box; exact rfl; exact rfl; exact rfl; intro _ _) | (apply TL_alloc; exact rfl; intro _ _) | (apply TL_buildSlice; exact rfl; exact rfl; exact rfl; exact rfl; exact rfl; intro _ _))
    refine TC_loop (σ := Nat) (fun k => k ≤ (S.pts.toNat + 1)) (fun k => [(1, .pointer (some ⟨b1, 0, none⟩)), (2, .pointer (some ⟨b2, 0, none⟩)), (3, .bool true), (8, .int .i64 (S.pts + 1)), (63, .int .i64 (S.pts + 1)), (64, .int .i64 j), (9, .int .i64 j), (67, .int .i64 (S.pts + 1)), (68, .int .i64 i), (10, .int .i64 i), (71, .int .i64 (S.pts + 1)), (72, .int .i64 k)]) (fun k => (Dd, .obj (.deferred (some []))) :: (b13, .cells (encT 21 441 (fwCol j i k (fwRow j (S.pts.toNat + 1) i T))) 76) :: (b2, .cells [.pointer (some ⟨b13, 0, none⟩)] 54) :: (hm ++ G)) (fun k => (S.pts.toNat + 1) - k) 0 (Nat.zero_le _) sb (fun w h => h) (fun k hk => ?_)
    have hXB := fw_B (r := i) hdj hk hB hC2.1
    have hs1 : fwCol j i (k + 1) (fwRow j (S.pts.toNat + 1) i T) = lowT (fwCol j i k (fwRow j (S.pts.toNat + 1) i T)) i k (fwCol j i k (fwRow j (S.pts.toNat + 1) i T) i j + fwCol j i k (fwRow j (S.pts.toNat + 1) i T) j k) := rfl
    have hs2 : fwCol j i (S.pts.toNat + 1) (fwRow j (S.pts.toNat + 1) i T) = fwRow j (S.pts.toNat + 1) (i + 1) T := rfl
    repeat' (first | refine rn ?_ | (apply TL_box; exact rfl; exact rfl; exact rfl; intro _ _) | (apply TL_alloc; exact rfl; intro _ _) | (apply TL_buildSlice; exact rfl; exact rfl; exact rfl; exact rfl; exact rfl; intro _ _))
    refine TC_cond_dec rfl (fun h3 => ?_) (fun h3 => ?_)
    · have hlk : k < (S.pts.toNat + 1) := by omega
      generalize fwCol j i k (fwRow j (S.pts.toNat + 1) i T) = X at hXB hs1
      have x1 := hXB i k
      have x2 := hXB i j
      have x3 := hXB j k
      repeat' (first | refine rn ?_ | (apply TL_box; exact rfl; exact rfl; exact rfl; intro _ _) | (apply TL_alloc; exact rfl; intro _ _) | (apply TL_buildSlice; exact rfl; exact rfl; exact rfl; exact rfl; exact rfl; intro _ _))
      apply TC_draw 28; kernel_rfl; exact Tryd.mixed
      · iterate 6 (refine' pv ?_; rotate_left)
        (refine' PG.val rfl rfl (by intro _X; refine TL_nilCheck rfl rfl ?_; exact qe) ?_; rotate_left)
        (refine' PG.val rfl rfl (by intro _X; refine TL_indexAddrA i rfl rfl rfl rfl (by omega) ?_; exact qe) ?_; rotate_left)
        (refine' PG.val rfl rfl (by intro _X; refine TL_indexAddrA k rfl rfl rfl rfl (by omega) ?_; exact qe) ?_; rotate_left)
        (refine' PG.val rfl rfl (by intro _X; refine TL_load1 rfl rfl mm (encT_get (c := 21) (n := 441) (i := i) (k := k) X (by omega) (by omega) (by omega)) ?_; exact qe) ?_; rotate_left)
        iterate 3 (refine' pv ?_; rotate_left)
        (refine' PG.val rfl rfl (by intro _X; refine TL_nilCheck rfl rfl ?_; exact qe) ?_; rotate_left)
        (refine' PG.val rfl rfl (by intro _X; refine TL_indexAddrA i rfl rfl rfl rfl (by omega) ?_; exact qe) ?_; rotate_left)
        (refine' PG.val rfl rfl (by intro _X; refine TL_indexAddrA j rfl rfl rfl rfl (by omega) ?_; exact qe) ?_; rotate_left)
        (refine' PG.val rfl rfl (by intro _X; refine TL_load1 rfl rfl mm (encT_get (c := 21) (n := 441) (i := i) (k := j) X (by omega) (by omega) (by omega)) ?_; exact qe) ?_; rotate_left)
        iterate 3 (refine' pv ?_; rotate_left)
        (refine' PG.val rfl rfl (by intro _X; refine TL_nilCheck rfl rfl ?_; exact qe) ?_; rotate_left)
        (refine' PG.val rfl rfl (by intro _X; refine TL_indexAddrA j rfl rfl rfl rfl (by omega) ?_; exact qe) ?_; rotate_left)
        (refine' PG.val rfl rfl (by intro _X; refine TL_indexAddrA k rfl rfl rfl rfl (by omega) ?_; exact qe) ?_; rotate_left)
        (refine' PG.val rfl rfl (by intro _X; refine TL_load1 rfl rfl mm (encT_get (c := 21) (n := 441) (i := j) (k := k) X (by omega) (by omega) (by omega)) ?_; exact qe) ?_; rotate_left)
        iterate 2 (refine' pv ?_; rotate_left)
        (refine' PG.val rfl rfl (by intro _X; refine TL_nilCheck rfl rfl ?_; exact qe) ?_; rotate_left)
        (refine' PG.val rfl rfl (by intro _X; refine TL_indexAddrA i rfl rfl rfl rfl (by omega) ?_; exact qe) ?_; rotate_left)
        exact PG.nil
      change TL _ _ _ _ _ _ _ _ _ _ _
      refine TL_indexAddrA k rfl rfl rfl rfl (by omega) ?_
      refine TL_store rfl rfl rfl rfl rfl up (encT_put (c := 21) (n := 441) (i := i) (k := k) X (by omega) (by omega) (min (X i k) (X i j + X j k)) (by omega)) ?_
      repeat' (first | refine rn ?_ | (apply TL_box; exact rfl; exact rfl; exact rfl; intro _ _) | (apply TL_alloc; exact rfl; intro _ _) | (apply TL_buildSlice; exact rfl; exact rfl; exact rfl; exact rfl; exact rfl; intro _ _))
      refine TQ_round (k + 1) hlk (by omega) sb (fun w h => by rw [hs1]; exact h)
    · have hk2 : k = (S.pts.toNat + 1) := by omega
      subst hk2
      rw [hs2]
      repeat' (first | refine rn ?_ | (apply TL_box; exact rfl; exact rfl; exact rfl; intro _ _) | (apply TL_alloc; exact rfl; intro _ _) | (apply TL_buildSlice; exact rfl; exact rfl; exact rfl; exact rfl; exact rfl; intro _ _))
      refine TQ_round (i + 1) hli (by omega) sb (fun w h => h)
  have hi2 : i = (S.pts.toNat + 1) := by omega
  subst hi2
  clear h2 hi
  generalize fwRow j (S.pts.toNat + 1) (S.pts.toNat + 1) T = X at e1
  repeat' (first | refine rn ?_ | (apply TL_box; exact rfl; exact rfl; exact rfl; intro _ _) | (apply TL_alloc; exact rfl; intro _ _) | (apply TL_buildSlice; exact rfl; exact rfl; exact rfl; exact rfl; exact rfl; intro _ _))
  refine TC_loop (σ := Nat) (fun k => k ≤ (S.pts.toNat + 1) ∧ ∀ a, a < k → X a a = 0) (fun k => [(1, .pointer (some ⟨b1, 0, none⟩)), (2, .pointer (some ⟨b2, 0, none⟩)), (3, .bool true), (8, .int .i64 (S.pts + 1)), (63, .int .i64 (S.pts + 1)), (64, .int .i64 j), (106, .int .i64 (S.pts + 1)), (107, .int .i64 k)]) (fun k => (Dd, .obj (.deferred (some []))) :: (b13, .cells (encT 21 441 (X)) 76) :: (b2, .cells [.pointer (some ⟨b13, 0, none⟩)] 54) :: (hm ++ G)) (fun k => (S.pts.toNat + 1) - k) 0 ⟨Nat.zero_le _, fun a ha => by omega⟩ sb (fun w h => h) (fun k hk => ?_)
  obtain ⟨hk, hz⟩ := hk
  repeat' (first | refine rn ?_ | (apply TL_box; exact rfl; exact rfl; exact rfl; intro _ _) | (apply TL_alloc; exact rfl; intro _ _) | (apply TL_buildSlice; exact rfl; exact rfl; exact rfl; exact rfl; exact rfl; intro _ _))
  refine TC_cond_dec rfl (fun h3 => ?_) (fun h3 => ?_)
  · have hlk : k < (S.pts.toNat + 1) := by omega
    repeat' (first | refine rn ?_ | (apply TL_box; exact rfl; exact rfl; exact rfl; intro _ _) | (apply TL_alloc; exact rfl; intro _ _) | (apply TL_buildSlice; exact rfl; exact rfl; exact rfl; exact rfl; exact rfl; intro _ _))
    refine TL_nilCheck rfl rfl ?_
    refine TL_indexAddrA k rfl rfl rfl rfl (by omega) ?_
    refine TL_indexAddrA k rfl rfl rfl rfl (by omega) ?_
    refine TL_load1 rfl rfl mm (encT_get (c := 21) (n := 441) (i := k) (k := k) X (by omega) (by omega) (by omega)) ?_
    repeat' (first | refine rn ?_ | (apply TL_box; exact rfl; exact rfl; exact rfl; intro _ _) | (apply TL_alloc; exact rfl; intro _ _) | (apply TL_buildSlice; exact rfl; exact rfl; exact rfl; exact rfl; exact rfl; intro _ _))
    refine TC_cond_dec rfl (fun h4 => ?_) (fun h4 => ?_)
    · have hd : diagOk X (S.pts.toNat + 1) = false := by
        cases hc : diagOk X (S.pts.toNat + 1) with
        | false => rfl
        | true => exact absurd (diagOk_iff.1 hc k hlk) h4
      have hst := fwAll_stop (T := T0) (w := (S.pts.toNat + 1)) (r := j + 1) (by rw [e1]; exact hd) (S.pts.toNat + 1) (by omega)
      rw [e1, ← hsolve] at hst
      have r2 : (solveR S o wd).2 = decide (X k k = 0) := by rw [hst]; dsimp only; rw [hd, decide_eq_false h4]
      have r1' : (solveR S o wd).1 = X := by rw [hst]
      rw [← r1'] at r2 ⊢
      repeat' (first | refine rn ?_ | (apply TL_box; exact rfl; exact rfl; exact rfl; intro _ _) | (apply TL_alloc; exact rfl; intro _ _) | (apply TL_buildSlice; exact rfl; exact rfl; exact rfl; exact rfl; exact rfl; intro _ _))
      rw [← r2]
      refine TQ_scope_ret ?_
      exact TQ_leaveM (rs := [.cell 2 54, .tmp 3]) (vs := [.pointer (some ⟨b13, 0, none⟩), .bool (solveR S o wd).2]) (.inl rfl) up Tryd.results24 ⟨RV.cell1 rfl mm (by rfl), RV.tmp rfl, trivial⟩ (fun w' hs => ⟨b13, trivial, rfl, hs.sub (by repeat (first | exact List.Sublist.refl _ | apply List.Sublist.cons_cons | apply List.Sublist.cons))⟩)
    · repeat' (first | refine rn ?_ | (apply TL_box; exact rfl; exact rfl; exact rfl; intro _ _) | (apply TL_alloc; exact rfl; intro _ _) | (apply TL_buildSlice; exact rfl; exact rfl; exact rfl; exact rfl; exact rfl; intro _ _))
      have h5 : X k k = 0 := Classical.not_not.1 h4
      refine TQ_round (k + 1) ⟨hlk, fun a ha => ?_⟩ (by omega) (by rw [← decide_eq_true h5]; exact sb) (fun w h => h)
      by_cases ha2 : a = k
      · rw [ha2]; exact h5
      · exact hz a (by omega)
  · have hk2 : k = (S.pts.toNat + 1) := by omega
    subst hk2
    have hd : diagOk X (S.pts.toNat + 1) = true := diagOk_iff.2 hz
    rw [hd] at e1
    repeat' (first | refine rn ?_ | (apply TL_box; exact rfl; exact rfl; exact rfl; intro _ _) | (apply TL_alloc; exact rfl; intro _ _) | (apply TL_buildSlice; exact rfl; exact rfl; exact rfl; exact rfl; exact rfl; intro _ _))
    refine TQ_round (j + 1) ⟨hlt, by rw [e1]⟩ (by omega) sb (fun w h => by rw [e1]; exact h)
end Go.Proofs.YtoolblbdmmiahaaDoor
