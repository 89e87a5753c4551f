/- The walk of the statement LevelReached. -/
import Derived.Test.YtoolblbdmmiahaaL32
import Derived.Test.YtoolblbdmmiahaaEngZ
namespace Go.Proofs.Ytoolblbdmmiahaa
open Go Go.Eng Go.RowKit Go.Proofs
set_option maxHeartbeats 4000000
set_option maxRecDepth 10000
attribute [local irreducible] TL TC TQ

theorem okH_yes {T : Sv} (h : okH T = true) : OkSv T ∧ okS T = true := by
  unfold okH at h
  rw [Bool.and_eq_true, decide_eq_true_iff] at h
  exact h
theorem heights_H (T : Sv) : (okH T = true ∧ (heightsF T).2 = 0) ∨ (okH T = false ∧ ((heightsF T).2 = 10 ∨ (heightsF T).2 = 11)) := by
  by_cases hT : OkSv T
  · cases ok : okS T with
    | true => exact .inl ⟨by unfold okH; rw [decide_eq_true hT, ok]; rfl, by rw [heightsF_ok hT ok]⟩
    | false => exact .inr ⟨by unfold okH; rw [ok, Bool.and_false], .inr (by rw [heightsF_no hT ok])⟩
  · exact .inr ⟨by unfold okH; rw [decide_eq_false hT, Bool.false_and], .inl (by unfold heightsF; rw [if_pos hT])⟩
theorem pmA' {ob G H A : Hp} (h : (ob ++ G).Perm H) : (ob ++ (A ++ G)).Perm (A ++ H) := (List.perm_append_comm_assoc ob A G).trans (h.append_left A)
theorem c40 {B : Nat} {w0 : World} (S : Sv) (hS : OkSv S) (p : Pl) (a : Int) (v : Int) (r : Bool) (hr : okH (addMark S ((⟨a, (v, v)⟩ : Mk))) = r) (ha : ∀ {w : World} {K : Hp}, SH B w0 w K → SvAt w S p) (bs ba : Nat) (G : Hp) (hms : (bs, .cells (encSv S p) 26) ∈ G) (hma : (ba, .cells [.int .i64 a] 3) ∈ G) (w : World) (hs : SH B w0 w G) :
    Calls Try.prog 40 #[.int .i64 v, .pointer (some ⟨bs, 0, none⟩), .pointer (some ⟨ba, 0, none⟩)] w (RetP B w0 (fun _ : Unit => .bool r) (fun _ => G) (fun _ => True)) := by
  have hl1 := hS.2.1
  have hl2 := hS.2.2.1
  have hl3 := hS.2.2.2.1
  refine enter (args := [.int .i64 v, .pointer (some ⟨bs, 0, none⟩), .pointer (some ⟨ba, 0, none⟩)]) Try.func40 rfl Try.ntmps40 rfl hs ?_
  repeat' (first | refine rn ?_ | (apply TL_box; exact rfl; exact rfl; exact rfl; intro _ _) | (apply TL_alloc; exact rfl; intro _ _) | (apply TL_buildSlice; exact rfl; exact rfl; exact rfl; exact rfl; exact rfl; intro _ _))
  refine TL_loadn rfl rfl (by repeat (first | exact hms | apply List.mem_cons_of_mem | apply List.mem_append_right)) rfl ?_
  refine TL_callN rfl rfl rfl (fun w h => c15 S p (by omega) (by omega) (by omega) w (ha h)) ?_
  rintro z hz
  change TL _ _ _ _ _ _ _ _ _ _ _
  repeat' (first | refine rn ?_ | (apply TL_box; exact rfl; exact rfl; exact rfl; intro _ _) | (apply TL_alloc; exact rfl; intro _ _) | (apply TL_buildSlice; exact rfl; exact rfl; exact rfl; exact rfl; exact rfl; intro _ _))
  rename_i bt _
  apply TC_draw 8; kernel_rfl; exact Try.mixed
  · iterate 2 (refine' pv ?_; rotate_left)
    (refine' PG.val rfl rfl (by intro _X; refine TL_load1 rfl rfl (by repeat (first | exact hma | apply List.mem_cons_of_mem | apply List.mem_append_right)) rfl ?_; exact qe) ?_; rotate_left)
    iterate 2 (refine' pv ?_; rotate_left)
    (refine' PG.val rfl rfl (by intro _X; refine TL_callV rfl rfl rfl (fun w _ => c39 v v w) ?_; exact qe) ?_; rotate_left)
    (refine' pv ?_; rotate_left)
    (refine' PG.rel ((fun vv h => ∃ b0, vv = .slice (some ⟨b0, 0, none⟩) 1 1 ∧ h = [(b0, .cells (encMk ((⟨a, (v, v)⟩ : Mk))) 75)])) rfl rfl (by intro _X; apply TL_buildSlice; exact rfl; exact rfl; exact rfl; exact rfl; exact rfl; intro b0 _; exact TL_nil (TQ_QR (h := [(b0, _)]) rfl ⟨b0, rfl, rfl⟩ (fun _ h => h))) ?_; rotate_left)
    exact PG.nil
  rintro _ _ ⟨b7, rfl, rfl⟩
  change TL _ _ _ _ _ _ _ _ _ _ _
  refine TL_hp (H := (b7, .cells (encMk ((⟨a, (v, v)⟩ : Mk))) 75) :: (bt, .cells (encSv S z.p) 26) :: (z.hp ++ G)) (H' := (b7, .cells (encMk ((⟨a, (v, v)⟩ : Mk))) 75) :: (bt, .cells (encSv S z.p) 26) :: (z.o3 ++ (z.o2 ++ (z.o1 ++ G)))) (List.Perm.of_eq (by simp only [Tw.hp, List.append_assoc])) ?_
  refine TL_appendE (l := S.marks) (l2 := [(⟨a, (v, v)⟩ : Mk)]) (enc := encMk) (G := _) rfl (by rfl) rfl rfl rfl rfl (List.cons_ne_nil _ _) hz.r2 (pm_cons (pm_cons (pmA' pm_here))) (fun w h => Sl.of_blk h mm (fun _ _ => rfl) ⟨[], by rfl⟩) (fun u _ => rfl) (by simp only [List.length_singleton]; omega) (by simp only [List.length_singleton, maxLen]; omega) (fun a2 c2 o2 hr2 => ?_)
  obtain ⟨pA, hpA⟩ : ∃ pA : Pl, pA = ⟨z.p.a1, z.p.c1, a2, c2, z.p.a3, z.p.c3⟩ := ⟨_, rfl⟩
  have hsA : ∀ {w0 w : World} {B : Nat} {K : Hp}, SH B w0 w K → (∀ x ∈ z.o1, x ∈ K) → (∀ x ∈ o2, x ∈ K) → (∀ x ∈ z.o3, x ∈ K) → SvAt w (addMark S ((⟨a, (v, v)⟩ : Mk))) pA := fun h m1 m2 m3 => by rw [hpA]; exact ⟨hz.r1.sl h m1, hr2.sl h m2, hz.r3.sl h m3⟩
  have eA : encSv (addMark S ((⟨a, (v, v)⟩ : Mk))) pA = [.int .i64 S.pts, .slice z.p.a1 S.shots.length z.p.c1, .slice a2 (S.marks ++ [(⟨a, (v, v)⟩ : Mk)]).length c2, .slice z.p.a3 S.thr.length z.p.c3] := by rw [hpA]; rfl
  have c16' := fun w h => c16 (addMark S ((⟨a, (v, v)⟩ : Mk))) pA (show S.shots.length ≤ _ by omega) (show (S.marks ++ [(⟨a, (v, v)⟩ : Mk)]).length ≤ _ by rw [List.length_append, List.length_singleton]; omega) (show S.thr.length ≤ _ by omega) w h
  rw [eA] at c16'
  have hH := heights_H (addMark S ((⟨a, (v, v)⟩ : Mk)))
  rw [hr] at hH
  generalize heightsF (addMark S ((⟨a, (v, v)⟩ : Mk))) = HF at *
  obtain ⟨HL, HE⟩ := HF
  dsimp only at hH
  repeat' (first | refine rn ?_ | (apply TL_box; exact rfl; exact rfl; exact rfl; intro _ _) | (apply TL_alloc; exact rfl; intro _ _) | (apply TL_buildSlice; exact rfl; exact rfl; exact rfl; exact rfl; exact rfl; intro _ _))
  refine TL_callN rfl rfl rfl (fun w h => c16' w (hsA h (fun x hx => by simp only [List.mem_append, List.mem_cons, hx, true_or, or_true]) (fun x hx => by simp only [List.mem_append, List.mem_cons, hx, true_or, or_true]) (fun x hx => by simp only [List.mem_append, List.mem_cons, hx, true_or, or_true]))) ?_
  rintro ⟨so3, sc3, ob3⟩ hrow3
  change TL _ _ _ _ _ _ _ _ _ _ _
  dsimp only
  rcases hH with ⟨rfl, rfl⟩ | ⟨rfl, rfl | rfl⟩
  · repeat' (first | (refine TL_eql_same rfl rfl rfl ?_) | refine r1 ?_ | (apply TL_box; exact rfl; exact rfl; exact rfl; intro _ _) | (apply TL_alloc; exact rfl; intro _ _) | (apply TL_buildSlice; exact rfl; exact rfl; exact rfl; exact rfl; exact rfl; intro _ _))
    exact TQ_ret1 Try.results40 (RV.tmp rfl) (fun w' hs => ⟨(), trivial, rfl, hs.sub (by repeat (first | exact List.Sublist.refl _ | refine List.Sublist.trans ?_ (List.sublist_append_right _ _) | apply List.Sublist.cons))⟩)
  · repeat' (first | (refine TL_eql_same rfl rfl rfl ?_) | refine r1 ?_ | (apply TL_box; exact rfl; exact rfl; exact rfl; intro _ _) | (apply TL_alloc; exact rfl; intro _ _) | (apply TL_buildSlice; exact rfl; exact rfl; exact rfl; exact rfl; exact rfl; intro _ _))
    exact TQ_ret1 Try.results40 (RV.tmp rfl) (fun w' hs => ⟨(), trivial, rfl, hs.sub (by repeat (first | exact List.Sublist.refl _ | refine List.Sublist.trans ?_ (List.sublist_append_right _ _) | apply List.Sublist.cons))⟩)
  · repeat' (first | (refine TL_eql_same rfl rfl rfl ?_) | refine r1 ?_ | (apply TL_box; exact rfl; exact rfl; exact rfl; intro _ _) | (apply TL_alloc; exact rfl; intro _ _) | (apply TL_buildSlice; exact rfl; exact rfl; exact rfl; exact rfl; exact rfl; intro _ _))
    exact TQ_ret1 Try.results40 (RV.tmp rfl) (fun w' hs => ⟨(), trivial, rfl, hs.sub (by repeat (first | exact List.Sublist.refl _ | refine List.Sublist.trans ?_ (List.sublist_append_right _ _) | apply List.Sublist.cons))⟩)
theorem c41 {B : Nat} {w0 : World} (S : Sv) (hS : OkSv S) (p : Pl) (a b : Int) (v : Int) (r : Bool) (hr : okH (addShot S ((⟨b, a, (v, v)⟩ : Sh))) = r) (ha : ∀ {w : World} {K : Hp}, SH B w0 w K → SvAt w S p) (bs bb ba : Nat) (G : Hp) (hms : (bs, .cells (encSv S p) 26) ∈ G) (hmb : (bb, .cells [.int .i64 b] 3) ∈ G) (hma : (ba, .cells [.int .i64 a] 3) ∈ G) (w : World) (hs : SH B w0 w G) :
    Calls Try.prog 41 #[.int .i64 v, .pointer (some ⟨bs, 0, none⟩), .pointer (some ⟨bb, 0, none⟩), .pointer (some ⟨ba, 0, none⟩)] w (RetP B w0 (fun _ : Unit => .bool r) (fun _ => G) (fun _ => True)) := by
  have hl1 := hS.2.1
  have hl2 := hS.2.2.1
  have hl3 := hS.2.2.2.1
  refine enter (args := [.int .i64 v, .pointer (some ⟨bs, 0, none⟩), .pointer (some ⟨bb, 0, none⟩), .pointer (some ⟨ba, 0, none⟩)]) Try.func41 rfl Try.ntmps41 rfl hs ?_
  repeat' (first | refine rn ?_ | (apply TL_box; exact rfl; exact rfl; exact rfl; intro _ _) | (apply TL_alloc; exact rfl; intro _ _) | (apply TL_buildSlice; exact rfl; exact rfl; exact rfl; exact rfl; exact rfl; intro _ _))
  refine TL_loadn rfl rfl (by repeat (first | exact hms | apply List.mem_cons_of_mem | apply List.mem_append_right)) rfl ?_
  refine TL_callN rfl rfl rfl (fun w h => c15 S p (by omega) (by omega) (by omega) w (ha h)) ?_
  rintro z hz
  change TL _ _ _ _ _ _ _ _ _ _ _
  repeat' (first | refine rn ?_ | (apply TL_box; exact rfl; exact rfl; exact rfl; intro _ _) | (apply TL_alloc; exact rfl; intro _ _) | (apply TL_buildSlice; exact rfl; exact rfl; exact rfl; exact rfl; exact rfl; intro _ _))
  rename_i bt _
  apply TC_draw 9; kernel_rfl; exact Try.mixed
  · iterate 2 (refine' pv ?_; rotate_left)
    (refine' PG.val rfl rfl (by intro _X; refine TL_load1 rfl rfl (by repeat (first | exact hmb | apply List.mem_cons_of_mem | apply List.mem_append_right)) rfl ?_; exact qe) ?_; rotate_left)
    (refine' PG.val rfl rfl (by intro _X; refine TL_load1 rfl rfl (by repeat (first | exact hma | apply List.mem_cons_of_mem | apply List.mem_append_right)) rfl ?_; exact qe) ?_; rotate_left)
    iterate 2 (refine' pv ?_; rotate_left)
    (refine' PG.val rfl rfl (by intro _X; refine TL_callV rfl rfl rfl (fun w _ => c39 v v w) ?_; exact qe) ?_; rotate_left)
    (refine' pv ?_; rotate_left)
    (refine' PG.rel ((fun vv h => ∃ b0, vv = .slice (some ⟨b0, 0, none⟩) 1 1 ∧ h = [(b0, .cells (encSh ((⟨b, a, (v, v)⟩ : Sh))) 78)])) rfl rfl (by intro _X; apply TL_buildSlice; exact rfl; exact rfl; exact rfl; exact rfl; exact rfl; intro b0 _; exact TL_nil (TQ_QR (h := [(b0, _)]) rfl ⟨b0, rfl, rfl⟩ (fun _ h => h))) ?_; rotate_left)
    exact PG.nil
  rintro _ _ ⟨b7, rfl, rfl⟩
  change TL _ _ _ _ _ _ _ _ _ _ _
  refine TL_hp (H := (b7, .cells (encSh ((⟨b, a, (v, v)⟩ : Sh))) 78) :: (bt, .cells (encSv S z.p) 26) :: (z.hp ++ G)) (H' := (b7, .cells (encSh ((⟨b, a, (v, v)⟩ : Sh))) 78) :: (bt, .cells (encSv S z.p) 26) :: (z.o3 ++ (z.o2 ++ (z.o1 ++ G)))) (List.Perm.of_eq (by simp only [Tw.hp, List.append_assoc])) ?_
  refine TL_appendE (l := S.shots) (l2 := [(⟨b, a, (v, v)⟩ : Sh)]) (enc := encSh) (G := _) rfl (by rfl) rfl rfl rfl rfl (List.cons_ne_nil _ _) hz.r1 (pm_cons (pm_cons (pmA' (pmA' pm_here)))) (fun w h => Sl.of_blk h mm (fun _ _ => rfl) ⟨[], by rfl⟩) (fun u _ => rfl) (by simp only [List.length_singleton]; omega) (by simp only [List.length_singleton, maxLen]; omega) (fun a2 c2 o2 hr2 => ?_)
  obtain ⟨pA, hpA⟩ : ∃ pA : Pl, pA = ⟨a2, c2, z.p.a2, z.p.c2, z.p.a3, z.p.c3⟩ := ⟨_, rfl⟩
  have hsA : ∀ {w0 w : World} {B : Nat} {K : Hp}, SH B w0 w K → (∀ x ∈ z.o2, x ∈ K) → (∀ x ∈ o2, x ∈ K) → (∀ x ∈ z.o3, x ∈ K) → SvAt w (addShot S ((⟨b, a, (v, v)⟩ : Sh))) pA := fun h m1 m2 m3 => by rw [hpA]; exact ⟨hr2.sl h m2, hz.r2.sl h m1, hz.r3.sl h m3⟩
  have eA : encSv (addShot S ((⟨b, a, (v, v)⟩ : Sh))) pA = [.int .i64 S.pts, .slice a2 (S.shots ++ [(⟨b, a, (v, v)⟩ : Sh)]).length c2, .slice z.p.a2 S.marks.length z.p.c2, .slice z.p.a3 S.thr.length z.p.c3] := by rw [hpA]; rfl
  have c16' := fun w h => c16 (addShot S ((⟨b, a, (v, v)⟩ : Sh))) pA (show (S.shots ++ [(⟨b, a, (v, v)⟩ : Sh)]).length ≤ _ by rw [List.length_append, List.length_singleton]; omega) (show S.marks.length ≤ _ by omega) (show S.thr.length ≤ _ by omega) w h
  rw [eA] at c16'
  have hH := heights_H (addShot S ((⟨b, a, (v, v)⟩ : Sh)))
  rw [hr] at hH
  generalize heightsF (addShot S ((⟨b, a, (v, v)⟩ : Sh))) = HF at *
  obtain ⟨HL, HE⟩ := HF
  dsimp only at hH
  repeat' (first | refine rn ?_ | (apply TL_box; exact rfl; exact rfl; exact rfl; intro _ _) | (apply TL_alloc; exact rfl; intro _ _) | (apply TL_buildSlice; exact rfl; exact rfl; exact rfl; exact rfl; exact rfl; intro _ _))
  refine TL_callN rfl rfl rfl (fun w h => c16' w (hsA h (fun x hx => by simp only [List.mem_append, List.mem_cons, hx, true_or, or_true]) (fun x hx => by simp only [List.mem_append, List.mem_cons, hx, true_or, or_true]) (fun x hx => by simp only [List.mem_append, List.mem_cons, hx, true_or, or_true]))) ?_
  rintro ⟨so3, sc3, ob3⟩ hrow3
  change TL _ _ _ _ _ _ _ _ _ _ _
  dsimp only
  rcases hH with ⟨rfl, rfl⟩ | ⟨rfl, rfl | rfl⟩
  · repeat' (first | (refine TL_eql_same rfl rfl rfl ?_) | refine r1 ?_ | (apply TL_box; exact rfl; exact rfl; exact rfl; intro _ _) | (apply TL_alloc; exact rfl; intro _ _) | (apply TL_buildSlice; exact rfl; exact rfl; exact rfl; exact rfl; exact rfl; intro _ _))
    exact TQ_ret1 Try.results41 (RV.tmp rfl) (fun w' hs => ⟨(), trivial, rfl, hs.sub (by repeat (first | exact List.Sublist.refl _ | refine List.Sublist.trans ?_ (List.sublist_append_right _ _) | apply List.Sublist.cons))⟩)
  · repeat' (first | (refine TL_eql_same rfl rfl rfl ?_) | refine r1 ?_ | (apply TL_box; exact rfl; exact rfl; exact rfl; intro _ _) | (apply TL_alloc; exact rfl; intro _ _) | (apply TL_buildSlice; exact rfl; exact rfl; exact rfl; exact rfl; exact rfl; intro _ _))
    exact TQ_ret1 Try.results41 (RV.tmp rfl) (fun w' hs => ⟨(), trivial, rfl, hs.sub (by repeat (first | exact List.Sublist.refl _ | refine List.Sublist.trans ?_ (List.sublist_append_right _ _) | apply List.Sublist.cons))⟩)
  · repeat' (first | (refine TL_eql_same rfl rfl rfl ?_) | refine r1 ?_ | (apply TL_box; exact rfl; exact rfl; exact rfl; intro _ _) | (apply TL_alloc; exact rfl; intro _ _) | (apply TL_buildSlice; exact rfl; exact rfl; exact rfl; exact rfl; exact rfl; intro _ _))
    exact TQ_ret1 Try.results41 (RV.tmp rfl) (fun w' hs => ⟨(), trivial, rfl, hs.sub (by repeat (first | exact List.Sublist.refl _ | refine List.Sublist.trans ?_ (List.sublist_append_right _ _) | apply List.Sublist.cons))⟩)
theorem reached_law {S : Sv} (hS : OkSv S) (ok : okS S = true) (hl1 : S.shots.length ≤ 59) (hl2 : S.marks.length ≤ 19) {i j : Nat} (hi : i < S.pts.toNat) (hj : j < S.pts.toNat) :
    ∃ u f : Sp, ((List.range S.pts.toNat).map (fun i => fallR (tbl S) i S.pts.toNat))[i]? = some u ∧ fallR (tbl S) i j = f ∧ (u.1 ≤ u.2 ∧ -10000000 ≤ u.1 ∧ u.2 ≤ 10000000) ∧ (f.1 ≤ f.2 ∧ -20000000 ≤ f.1 ∧ f.2 ≤ 20000000) ∧ (i = j → f = (0, 0)) ∧
      okH (addMark S ⟨(i : Int), (u.1, u.1)⟩) = true ∧ okH (addMark S ⟨(i : Int), (u.2, u.2)⟩) = true ∧ okH (addMark S ⟨(i : Int), (u.1 - 1, u.1 - 1)⟩) = false ∧ okH (addMark S ⟨(i : Int), (u.2 + 1, u.2 + 1)⟩) = false ∧
      (i ≠ j → okH (addShot S ⟨(j : Int), (i : Int), (f.1, f.1)⟩) = true ∧ okH (addShot S ⟨(j : Int), (i : Int), (f.2, f.2)⟩) = true ∧ okH (addShot S ⟨(j : Int), (i : Int), (f.1 - 1, f.1 - 1)⟩) = false ∧ okH (addShot S ⟨(j : Int), (i : Int), (f.2 + 1, f.2 + 1)⟩) = false) := by
  have o1 := fall_ord hS ok (i := i) (k := S.pts.toNat) (by omega) (by omega)
  have o2 := fall_ord hS ok (i := i) (k := j) (by omega) (by omega)
  have b0 := tbl_B0 hS ok hi
  have b1 := tbl_B hS ok (i := i) (k := j) (by omega) (by omega)
  have b2 := tbl_B hS ok (i := j) (k := i) (by omega) (by omega)
  have dg := (clo0 hS ok).diag i (by omega)
  simp only [fallR] at o1 o2
  refine ⟨_, _, heights_get S hi, rfl, ?_, ?_, fun h => ?_, mark_ok hS ok hl2 hi (.inl rfl), mark_ok hS ok hl2 hi (.inr rfl), mark_no hS ok hi (.inl ?_), mark_no hS ok hi (.inr ?_), fun hne => ⟨shot_ok hS ok hl1 hi hj hne (.inl rfl), shot_ok hS ok hl1 hi hj hne (.inr rfl), shot_no hS ok hi hj (.inl ?_), shot_no hS ok hi hj (.inr ?_)⟩⟩
  · simp only [fallR]; omega
  · simp only [fallR]; omega
  · subst h; simp only [fallR, dg, Int.neg_zero]
  · simp only [fallR]; omega
  · simp only [fallR]; omega
  · simp only [fallR]; omega
  · simp only [fallR]; omega
theorem c7 (S : Sv) (p : Pl) (a b : Int) (ga : 0 ≤ a ∧ a ≤ 255) (gb : 0 ≤ b ∧ b ≤ 255) (h1 : S.shots.length ≤ 9223372036854775807) (h2 : S.marks.length ≤ 9223372036854775807) (h3 : S.thr.length ≤ 9223372036854775807) (w : World) (ha : SvAt w S p) :
    Calls Try.prog 7 #[.agg (encSv S p).toArray, .int .u8 a, .int .u8 b] w (RetV w (.bool true)) := by
  refine enter (args := [.agg (encSv S p).toArray, .int .u8 a, .int .u8 b]) Try.func7 rfl Try.ntmps7 rfl (SH.refl _) ?_
  repeat' (first | refine rn ?_ | (apply TL_box; exact rfl; exact rfl; exact rfl; intro _ _) | (apply TL_alloc; exact rfl; intro _ _) | (apply TL_buildSlice; exact rfl; exact rfl; exact rfl; exact rfl; exact rfl; intro _ _))
  rename_i b3 _
  refine TL_callV rfl rfl rfl (fun w _ => c35 w) ?_
  repeat' (first | refine rn ?_ | (apply TL_box; exact rfl; exact rfl; exact rfl; intro _ _) | (apply TL_alloc; exact rfl; intro _ _) | (apply TL_buildSlice; exact rfl; exact rfl; exact rfl; exact rfl; exact rfl; intro _ _))
  refine TL_callV rfl rfl rfl (fun w h => c36 S p h1 h2 h3 w (ha.mono h)) ?_
  by_cases hS : OkSv S
  rotate_left
  · rw [decide_eq_false hS]
    repeat' (first | refine rn ?_ | (apply TL_box; exact rfl; exact rfl; exact rfl; intro _ _) | (apply TL_alloc; exact rfl; intro _ _) | (apply TL_buildSlice; exact rfl; exact rfl; exact rfl; exact rfl; exact rfl; intro _ _))
    exact TQ_ret1 Try.results7 (RV.tmp rfl) (fun w' hs => ⟨rfl, hs.below⟩)
  rw [decide_eq_true hS]
  have hp := hS.1
  simp only [In] at hp
  have hl1 := hS.2.1
  have hl2 := hS.2.2.1
  have hl3 := hS.2.2.2.1
  repeat' (first | refine rn ?_ | (apply TL_box; exact rfl; exact rfl; exact rfl; intro _ _) | (apply TL_alloc; exact rfl; intro _ _) | (apply TL_buildSlice; exact rfl; exact rfl; exact rfl; exact rfl; exact rfl; intro _ _))
  refine TL_gsplit_dec rfl rfl (fun g1 => ?_) (fun g1 => ?_)
  · repeat' (first | refine rn ?_ | (apply TL_box; exact rfl; exact rfl; exact rfl; intro _ _) | (apply TL_alloc; exact rfl; intro _ _) | (apply TL_buildSlice; exact rfl; exact rfl; exact rfl; exact rfl; exact rfl; intro _ _))
    exact TQ_ret1 Try.results7 (RV.tmp rfl) (fun w' hs => ⟨rfl, hs.below⟩)
  repeat' (first | refine rn ?_ | (apply TL_box; exact rfl; exact rfl; exact rfl; intro _ _) | (apply TL_alloc; exact rfl; intro _ _) | (apply TL_buildSlice; exact rfl; exact rfl; exact rfl; exact rfl; exact rfl; intro _ _))
  refine TC_cond_dec rfl (fun g2 => ?_) (fun g2 => ?_)
  · repeat' (first | refine rn ?_ | (apply TL_box; exact rfl; exact rfl; exact rfl; intro _ _) | (apply TL_alloc; exact rfl; intro _ _) | (apply TL_buildSlice; exact rfl; exact rfl; exact rfl; exact rfl; exact rfl; intro _ _))
    exact TQ_ret1 Try.results7 (RV.tmp rfl) (fun w' hs => ⟨rfl, hs.below⟩)
  have gi := mod_rg (n := S.pts) ga.1 hp.1
  have gj := mod_rg (n := S.pts) gb.1 hp.1
  obtain ⟨i, hi⟩ : ∃ i : Nat, a % S.pts = (i : Int) := ⟨(a % S.pts).toNat, by omega⟩
  obtain ⟨j, hj⟩ : ∃ j : Nat, b % S.pts = (j : Int) := ⟨(b % S.pts).toNat, by omega⟩
  have hli : i < S.pts.toNat := by omega
  have hlj : j < S.pts.toNat := by omega
  have ii : In (i : Int) 0 (S.pts - 1) := by simp only [In]; omega
  have ij : In (j : Int) 0 (S.pts - 1) := by simp only [In]; omega
  repeat' (first | refine rn ?_ | (apply TL_box; exact rfl; exact rfl; exact rfl; intro _ _) | (apply TL_alloc; exact rfl; intro _ _) | (apply TL_buildSlice; exact rfl; exact rfl; exact rfl; exact rfl; exact rfl; intro _ _))
  apply TC_draw4 13 12 0 8 (fun v h => ∃ b, w.heap.size ≤ b ∧ v = .pointer (some ⟨b, 0, none⟩) ∧ h = [(b, .cells [.int .i64 (a % S.pts)] 3)]); kernel_rfl; exact rfl; exact Try.mixed
  · (refine' pv4 ?_; rotate_left)
    (refine' PG4.val rfl rfl (by intro _X; refine TL_conv_same rfl rfl (wrap_i64_in ga.1 (by omega)) ?_; exact qe) ?_; rotate_left)
    (refine' pv4 ?_; rotate_left)
    (refine' pv4 ?_; rotate_left)
    (refine' pv4 ?_; rotate_left)
    (refine' pv4 ?_; rotate_left)
    (refine' PG4.val rfl rfl (by intro _X; refine TL_conv_same rfl rfl (wrap_i64_in gb.1 (by omega)) ?_; exact qe) ?_; rotate_left)
    (refine' pv4 ?_; rotate_left)
    (refine' pv4 ?_; rotate_left)
    (refine' pv4 ?_; rotate_left)
    (refine' pn4 ?_; rotate_left)
    (refine' pn4 ?_; rotate_left)
    (refine' PG4.sto rfl rfl ⟨_, rfl, (by rintro _ _ ⟨b, hb, rfl, rfl⟩ _X; refine r1 ?_; exact TL_nil (TQ_Q4 (h' := [(b, _)]) ⟨b, hb, rfl, rfl⟩ (fun _ h => h)))⟩ ?_; rotate_left)
    exact PG4.nil
  rintro v0 _ rfl _ _ ⟨b9, _, rfl, rfl⟩ _ _ ⟨b8, _, rfl, rfl⟩
  rw [hi]
  change TL _ _ _ _ _ _ _ _ _ _ _
  repeat' (first | refine rn ?_ | (apply TL_box; exact rfl; exact rfl; exact rfl; intro _ _) | (apply TL_alloc; exact rfl; intro _ _) | (apply TL_buildSlice; exact rfl; exact rfl; exact rfl; exact rfl; exact rfl; intro _ _))
  rw [hj]
  have c16' := fun w h => c16 S p (by omega) (by omega) (by omega) w h
  have c18' := fun w h => c18 S p (i : Int) (j : Int) (by omega) (by omega) (by omega) w h
  cases ok : okS S with
  | false =>
    rw [heightsF_no hS ok] at c16'
    rw [fallF_no hS ok ii ij] at c18'
    refine TL_callN rfl rfl rfl (fun w h => c16' w (ha.mono h)) ?_
    rintro ⟨so1, sc1, ob1⟩ hrow1
    change TL _ _ _ _ _ _ _ _ _ _ _
    dsimp only
    repeat' (first | refine rn ?_ | (apply TL_box; exact rfl; exact rfl; exact rfl; intro _ _) | (apply TL_alloc; exact rfl; intro _ _) | (apply TL_buildSlice; exact rfl; exact rfl; exact rfl; exact rfl; exact rfl; intro _ _))
    refine TL_callV rfl rfl rfl (fun w h => c18' w (ha.mono h)) ?_
    repeat' (first | (refine TL_eql_same rfl rfl rfl ?_) | refine r1 ?_ | (apply TL_box; exact rfl; exact rfl; exact rfl; intro _ _) | (apply TL_alloc; exact rfl; intro _ _) | (apply TL_buildSlice; exact rfl; exact rfl; exact rfl; exact rfl; exact rfl; intro _ _))
    exact TQ_ret1 Try.results7 (RV.tmp rfl) (fun w' hs => ⟨rfl, hs.below⟩)
  | true =>
    obtain ⟨u, f, hu, ef, ⟨u1, u2, u3⟩, ⟨f1, f2, f3⟩, hz, m1, m2, m3, m4, hsh⟩ := reached_law hS ok (by omega) (by omega) hli hlj
    have ef' : fallR (tbl S) (i : Int).toNat (j : Int).toNat = f := ef
    rw [heightsF_ok hS ok] at c16'
    rw [fallF_ok hS ok ii ij, ef'] at c18'
    have hln : ((List.range S.pts.toNat).map (fun i => fallR (tbl S) i S.pts.toNat)).length = S.pts.toNat := by simp
    have hne : (List.range S.pts.toNat).map (fun i => fallR (tbl S) i S.pts.toNat) ≠ [] := fun h => by rw [h] at hu; simp at hu
    generalize (List.range S.pts.toNat).map (fun i => fallR (tbl S) i S.pts.toNat) = l at *
    refine TL_callN rfl rfl rfl (fun w h => c16' w (ha.mono h)) ?_
    rintro ⟨so1, sc1, ob1⟩ hrow1
    replace hrow1 : Row 36 2 encSp so1 sc1 ob1 l := hrow1
    change TL _ _ _ _ _ _ _ _ _ _ _
    dsimp only
    repeat' (first | refine rn ?_ | (apply TL_box; exact rfl; exact rfl; exact rfl; intro _ _) | (apply TL_alloc; exact rfl; intro _ _) | (apply TL_buildSlice; exact rfl; exact rfl; exact rfl; exact rfl; exact rfl; intro _ _))
    refine TL_callV rfl rfl rfl (fun w h => c18' w (ha.mono h)) ?_
    repeat' (first | refine rn ?_ | (apply TL_box; exact rfl; exact rfl; exact rfl; intro _ _) | (apply TL_alloc; exact rfl; intro _ _) | (apply TL_buildSlice; exact rfl; exact rfl; exact rfl; exact rfl; exact rfl; intro _ _))
    by_cases hij : i = j
    · have hzz := hz hij
      subst hij
      subst hzz
      apply TC_draw 55; kernel_rfl; exact Try.mixed
      · iterate 3 (refine' pv ?_; rotate_left)
        iterate 4 (refine' pg ?_; rotate_left)
        (refine' PG.val rfl rfl (by intro _X; (refine TL_guard_yes rfl rfl rfl ?_); refine TL_neq_f rfl rfl rfl (by first | omega | (dsimp only; omega)) ?_; exact qe) ?_; rotate_left)
        iterate 2 (refine' pv ?_; rotate_left)
        iterate 2 (refine' pg ?_; rotate_left)
        (refine' PG.val rfl rfl (by intro _X; (refine TL_guard_yes rfl rfl rfl ?_); refine TL_index i rfl rfl rfl (fun w h => hrow1.sl h (fun x hx => by simp only [List.mem_append, List.mem_cons, hx, true_or, or_true])) rfl (by omega) (Nat.le_refl _) ?_; exact qe) ?_; rotate_left)
        (refine' PG.val rfl rfl (by intro _X; (refine TL_guard_yes rfl rfl rfl ?_); refine TL_fieldAddr_el rfl rfl (fun w h => hrow1.sl h (fun x hx => by simp only [List.mem_append, List.mem_cons, hx, true_or, or_true])) hne ?_; exact qe) ?_; rotate_left)
        (refine' PG.val rfl rfl (by intro _X; (refine TL_guard_yes rfl rfl rfl ?_); refine TL_load_el1 (u := u) rfl rfl (fun w h => hrow1.sl h (fun x hx => by simp only [List.mem_append, List.mem_cons, hx, true_or, or_true])) hu rfl ?_; exact qe) ?_; rotate_left)
        iterate 2 (refine' pg ?_; rotate_left)
        (refine' PG.val rfl rfl (by intro _X; (refine TL_guard_yes rfl rfl rfl ?_); refine TL_index i rfl rfl rfl (fun w h => hrow1.sl h (fun x hx => by simp only [List.mem_append, List.mem_cons, hx, true_or, or_true])) rfl (by omega) (Nat.le_refl _) ?_; exact qe) ?_; rotate_left)
        (refine' PG.val rfl rfl (by intro _X; (refine TL_guard_yes rfl rfl rfl ?_); refine TL_fieldAddr_el rfl rfl (fun w h => hrow1.sl h (fun x hx => by simp only [List.mem_append, List.mem_cons, hx, true_or, or_true])) hne ?_; exact qe) ?_; rotate_left)
        (refine' PG.val rfl rfl (by intro _X; (refine TL_guard_yes rfl rfl rfl ?_); refine TL_load_el1 (u := u) rfl rfl (fun w h => hrow1.sl h (fun x hx => by simp only [List.mem_append, List.mem_cons, hx, true_or, or_true])) hu rfl ?_; exact qe) ?_; rotate_left)
        (refine' PG.val rfl rfl (by intro _X; (refine TL_guard_yes rfl rfl rfl ?_); refine TL_gtr_f rfl rfl rfl (by first | omega | (dsimp only; omega)) ?_; exact qe) ?_; rotate_left)
        iterate 2 (refine' pv ?_; rotate_left)
        iterate 2 (refine' pg ?_; rotate_left)
        (refine' PG.val rfl rfl (by intro _X; (refine TL_guard_yes rfl rfl rfl ?_); refine TL_index i rfl rfl rfl (fun w h => hrow1.sl h (fun x hx => by simp only [List.mem_append, List.mem_cons, hx, true_or, or_true])) rfl (by omega) (Nat.le_refl _) ?_; exact qe) ?_; rotate_left)
        (refine' PG.val rfl rfl (by intro _X; (refine TL_guard_yes rfl rfl rfl ?_); refine TL_fieldAddr_el rfl rfl (fun w h => hrow1.sl h (fun x hx => by simp only [List.mem_append, List.mem_cons, hx, true_or, or_true])) hne ?_; exact qe) ?_; rotate_left)
        (refine' PG.val rfl rfl (by intro _X; (refine TL_guard_yes rfl rfl rfl ?_); refine TL_load_el1 (u := u) rfl rfl (fun w h => hrow1.sl h (fun x hx => by simp only [List.mem_append, List.mem_cons, hx, true_or, or_true])) hu rfl ?_; exact qe) ?_; rotate_left)
        (refine' PG.val rfl rfl (by intro _X; (refine TL_guard_yes rfl rfl rfl ?_); refine TL_lss_f rfl rfl rfl (by first | omega | (dsimp only; omega)) ?_; exact qe) ?_; rotate_left)
        iterate 2 (refine' pv ?_; rotate_left)
        iterate 2 (refine' pg ?_; rotate_left)
        (refine' PG.val rfl rfl (by intro _X; (refine TL_guard_yes rfl rfl rfl ?_); refine TL_index i rfl rfl rfl (fun w h => hrow1.sl h (fun x hx => by simp only [List.mem_append, List.mem_cons, hx, true_or, or_true])) rfl (by omega) (Nat.le_refl _) ?_; exact qe) ?_; rotate_left)
        (refine' PG.val rfl rfl (by intro _X; (refine TL_guard_yes rfl rfl rfl ?_); refine TL_fieldAddr_el rfl rfl (fun w h => hrow1.sl h (fun x hx => by simp only [List.mem_append, List.mem_cons, hx, true_or, or_true])) hne ?_; exact qe) ?_; rotate_left)
        (refine' PG.val rfl rfl (by intro _X; (refine TL_guard_yes rfl rfl rfl ?_); refine TL_load_el1 (u := u) rfl rfl (fun w h => hrow1.sl h (fun x hx => by simp only [List.mem_append, List.mem_cons, hx, true_or, or_true])) hu rfl ?_; exact qe) ?_; rotate_left)
        (refine' PG.val rfl rfl (by intro _X; (refine TL_guard_yes rfl rfl rfl ?_); refine TL_gtr_f rfl rfl rfl (by first | omega | (dsimp only; omega)) ?_; exact qe) ?_; rotate_left)
        iterate 2 (refine' pv ?_; rotate_left)
        iterate 4 (refine' pg ?_; rotate_left)
        (refine' PG.val rfl rfl (by intro _X; (refine TL_guard_yes rfl rfl rfl ?_); refine TL_gtr_f rfl rfl rfl (by first | omega | (dsimp only; omega)) ?_; exact qe) ?_; rotate_left)
        iterate 2 (refine' pv ?_; rotate_left)
        iterate 2 (refine' pg ?_; rotate_left)
        (refine' PG.val rfl rfl (by intro _X; (refine TL_guard_yes rfl rfl rfl ?_); refine TL_eql_t rfl rfl rfl rfl ?_; exact qe) ?_; rotate_left)
        iterate 2 (refine' pg ?_; rotate_left)
        (refine' PG.val rfl rfl (by intro _X; (refine TL_guard_yes rfl rfl rfl ?_); refine TL_callV rfl rfl rfl (fun w _ => c39 0 0 w) ?_; exact qe) ?_; rotate_left)
        (refine' PG.val rfl rfl (by intro _X; (refine TL_guard_yes rfl rfl rfl ?_); refine TL_neqS_same rfl rfl rfl rfl rfl rfl rfl ?_; exact qe) ?_; rotate_left)
        (refine' pg ?_; rotate_left)
        (refine' pv ?_; rotate_left)
        exact PG.nil
      change TL _ _ _ _ _ _ _ _ _ _ _
      repeat' (first | refine rn ?_ | (apply TL_box; exact rfl; exact rfl; exact rfl; intro _ _) | (apply TL_alloc; exact rfl; intro _ _) | (apply TL_buildSlice; exact rfl; exact rfl; exact rfl; exact rfl; exact rfl; intro _ _))
      refine TL_index i rfl rfl rfl (fun w h => hrow1.sl h (fun x hx => by simp only [List.mem_append, List.mem_cons, hx, true_or, or_true])) rfl (by omega) (Nat.le_refl _) ?_
      refine TL_fieldAddr_el rfl rfl (fun w h => hrow1.sl h (fun x hx => by simp only [List.mem_append, List.mem_cons, hx, true_or, or_true])) hne ?_
      refine TL_load_el1 (u := u) rfl rfl (fun w h => hrow1.sl h (fun x hx => by simp only [List.mem_append, List.mem_cons, hx, true_or, or_true])) hu rfl ?_
      refine TL_call rfl rfl rfl _ _ _ (fun w h => c40 S hS p (i : Int) u.1 _ m1 (fun h => ha.mono h) b3 b8 _ mm mm w h) (fun _ _ => ?_)
      repeat' (first | refine rn ?_ | (apply TL_box; exact rfl; exact rfl; exact rfl; intro _ _) | (apply TL_alloc; exact rfl; intro _ _) | (apply TL_buildSlice; exact rfl; exact rfl; exact rfl; exact rfl; exact rfl; intro _ _))
      refine TL_index i rfl rfl rfl (fun w h => hrow1.sl h (fun x hx => by simp only [List.mem_append, List.mem_cons, hx, true_or, or_true])) rfl (by omega) (Nat.le_refl _) ?_
      refine TL_guard_yes rfl rfl rfl ?_
      refine TL_fieldAddr_el rfl rfl (fun w h => hrow1.sl h (fun x hx => by simp only [List.mem_append, List.mem_cons, hx, true_or, or_true])) hne ?_
      refine TL_guard_yes rfl rfl rfl ?_
      refine TL_load_el1 (u := u) rfl rfl (fun w h => hrow1.sl h (fun x hx => by simp only [List.mem_append, List.mem_cons, hx, true_or, or_true])) hu rfl ?_
      repeat' (first | refine rn ?_ | (apply TL_box; exact rfl; exact rfl; exact rfl; intro _ _) | (apply TL_alloc; exact rfl; intro _ _) | (apply TL_buildSlice; exact rfl; exact rfl; exact rfl; exact rfl; exact rfl; intro _ _))
      refine TL_call rfl rfl rfl _ _ _ (fun w h => c40 S hS p (i : Int) u.2 _ m2 (fun h => ha.mono h) b3 b8 _ mm mm w h) (fun _ _ => ?_)
      repeat' (first | refine rn ?_ | (apply TL_box; exact rfl; exact rfl; exact rfl; intro _ _) | (apply TL_alloc; exact rfl; intro _ _) | (apply TL_buildSlice; exact rfl; exact rfl; exact rfl; exact rfl; exact rfl; intro _ _))
      refine TL_index i rfl rfl rfl (fun w h => hrow1.sl h (fun x hx => by simp only [List.mem_append, List.mem_cons, hx, true_or, or_true])) rfl (by omega) (Nat.le_refl _) ?_
      refine TL_guard_yes rfl rfl rfl ?_
      refine TL_fieldAddr_el rfl rfl (fun w h => hrow1.sl h (fun x hx => by simp only [List.mem_append, List.mem_cons, hx, true_or, or_true])) hne ?_
      refine TL_guard_yes rfl rfl rfl ?_
      refine TL_load_el1 (u := u) rfl rfl (fun w h => hrow1.sl h (fun x hx => by simp only [List.mem_append, List.mem_cons, hx, true_or, or_true])) hu rfl ?_
      repeat' (first | refine rn ?_ | (apply TL_box; exact rfl; exact rfl; exact rfl; intro _ _) | (apply TL_alloc; exact rfl; intro _ _) | (apply TL_buildSlice; exact rfl; exact rfl; exact rfl; exact rfl; exact rfl; intro _ _))
      refine TL_call rfl rfl rfl _ _ _ (fun w h => c40 S hS p (i : Int) (u.1 - 1) _ m3 (fun h => ha.mono h) b3 b8 _ mm mm w h) (fun _ _ => ?_)
      repeat' (first | refine rn ?_ | (apply TL_box; exact rfl; exact rfl; exact rfl; intro _ _) | (apply TL_alloc; exact rfl; intro _ _) | (apply TL_buildSlice; exact rfl; exact rfl; exact rfl; exact rfl; exact rfl; intro _ _))
      refine TL_index i rfl rfl rfl (fun w h => hrow1.sl h (fun x hx => by simp only [List.mem_append, List.mem_cons, hx, true_or, or_true])) rfl (by omega) (Nat.le_refl _) ?_
      refine TL_guard_yes rfl rfl rfl ?_
      refine TL_fieldAddr_el rfl rfl (fun w h => hrow1.sl h (fun x hx => by simp only [List.mem_append, List.mem_cons, hx, true_or, or_true])) hne ?_
      refine TL_guard_yes rfl rfl rfl ?_
      refine TL_load_el1 (u := u) rfl rfl (fun w h => hrow1.sl h (fun x hx => by simp only [List.mem_append, List.mem_cons, hx, true_or, or_true])) hu rfl ?_
      repeat' (first | refine rn ?_ | (apply TL_box; exact rfl; exact rfl; exact rfl; intro _ _) | (apply TL_alloc; exact rfl; intro _ _) | (apply TL_buildSlice; exact rfl; exact rfl; exact rfl; exact rfl; exact rfl; intro _ _))
      refine TL_call rfl rfl rfl _ _ _ (fun w h => c40 S hS p (i : Int) (u.2 + 1) _ m4 (fun h => ha.mono h) b3 b8 _ mm mm w h) (fun _ _ => ?_)
      repeat' (first | (refine TL_eql_t rfl rfl rfl rfl ?_) | refine r1 ?_ | (apply TL_box; exact rfl; exact rfl; exact rfl; intro _ _) | (apply TL_alloc; exact rfl; intro _ _) | (apply TL_buildSlice; exact rfl; exact rfl; exact rfl; exact rfl; exact rfl; intro _ _))
      exact TQ_ret1 Try.results7 (RV.tmp rfl) (fun w' hs => ⟨rfl, hs.below⟩)
    · obtain ⟨s1, s2, s3, s4⟩ := hsh hij
      apply TC_draw 55; kernel_rfl; exact Try.mixed
      · iterate 3 (refine' pv ?_; rotate_left)
        iterate 4 (refine' pg ?_; rotate_left)
        (refine' PG.val rfl rfl (by intro _X; (refine TL_guard_yes rfl rfl rfl ?_); refine TL_neq_f rfl rfl rfl (by first | omega | (dsimp only; omega)) ?_; exact qe) ?_; rotate_left)
        iterate 2 (refine' pv ?_; rotate_left)
        iterate 2 (refine' pg ?_; rotate_left)
        (refine' PG.val rfl rfl (by intro _X; (refine TL_guard_yes rfl rfl rfl ?_); refine TL_index i rfl rfl rfl (fun w h => hrow1.sl h (fun x hx => by simp only [List.mem_append, List.mem_cons, hx, true_or, or_true])) rfl (by omega) (Nat.le_refl _) ?_; exact qe) ?_; rotate_left)
        (refine' PG.val rfl rfl (by intro _X; (refine TL_guard_yes rfl rfl rfl ?_); refine TL_fieldAddr_el rfl rfl (fun w h => hrow1.sl h (fun x hx => by simp only [List.mem_append, List.mem_cons, hx, true_or, or_true])) hne ?_; exact qe) ?_; rotate_left)
        (refine' PG.val rfl rfl (by intro _X; (refine TL_guard_yes rfl rfl rfl ?_); refine TL_load_el1 (u := u) rfl rfl (fun w h => hrow1.sl h (fun x hx => by simp only [List.mem_append, List.mem_cons, hx, true_or, or_true])) hu rfl ?_; exact qe) ?_; rotate_left)
        iterate 2 (refine' pg ?_; rotate_left)
        (refine' PG.val rfl rfl (by intro _X; (refine TL_guard_yes rfl rfl rfl ?_); refine TL_index i rfl rfl rfl (fun w h => hrow1.sl h (fun x hx => by simp only [List.mem_append, List.mem_cons, hx, true_or, or_true])) rfl (by omega) (Nat.le_refl _) ?_; exact qe) ?_; rotate_left)
        (refine' PG.val rfl rfl (by intro _X; (refine TL_guard_yes rfl rfl rfl ?_); refine TL_fieldAddr_el rfl rfl (fun w h => hrow1.sl h (fun x hx => by simp only [List.mem_append, List.mem_cons, hx, true_or, or_true])) hne ?_; exact qe) ?_; rotate_left)
        (refine' PG.val rfl rfl (by intro _X; (refine TL_guard_yes rfl rfl rfl ?_); refine TL_load_el1 (u := u) rfl rfl (fun w h => hrow1.sl h (fun x hx => by simp only [List.mem_append, List.mem_cons, hx, true_or, or_true])) hu rfl ?_; exact qe) ?_; rotate_left)
        (refine' PG.val rfl rfl (by intro _X; (refine TL_guard_yes rfl rfl rfl ?_); refine TL_gtr_f rfl rfl rfl (by first | omega | (dsimp only; omega)) ?_; exact qe) ?_; rotate_left)
        iterate 2 (refine' pv ?_; rotate_left)
        iterate 2 (refine' pg ?_; rotate_left)
        (refine' PG.val rfl rfl (by intro _X; (refine TL_guard_yes rfl rfl rfl ?_); refine TL_index i rfl rfl rfl (fun w h => hrow1.sl h (fun x hx => by simp only [List.mem_append, List.mem_cons, hx, true_or, or_true])) rfl (by omega) (Nat.le_refl _) ?_; exact qe) ?_; rotate_left)
        (refine' PG.val rfl rfl (by intro _X; (refine TL_guard_yes rfl rfl rfl ?_); refine TL_fieldAddr_el rfl rfl (fun w h => hrow1.sl h (fun x hx => by simp only [List.mem_append, List.mem_cons, hx, true_or, or_true])) hne ?_; exact qe) ?_; rotate_left)
        (refine' PG.val rfl rfl (by intro _X; (refine TL_guard_yes rfl rfl rfl ?_); refine TL_load_el1 (u := u) rfl rfl (fun w h => hrow1.sl h (fun x hx => by simp only [List.mem_append, List.mem_cons, hx, true_or, or_true])) hu rfl ?_; exact qe) ?_; rotate_left)
        (refine' PG.val rfl rfl (by intro _X; (refine TL_guard_yes rfl rfl rfl ?_); refine TL_lss_f rfl rfl rfl (by first | omega | (dsimp only; omega)) ?_; exact qe) ?_; rotate_left)
        iterate 2 (refine' pv ?_; rotate_left)
        iterate 2 (refine' pg ?_; rotate_left)
        (refine' PG.val rfl rfl (by intro _X; (refine TL_guard_yes rfl rfl rfl ?_); refine TL_index i rfl rfl rfl (fun w h => hrow1.sl h (fun x hx => by simp only [List.mem_append, List.mem_cons, hx, true_or, or_true])) rfl (by omega) (Nat.le_refl _) ?_; exact qe) ?_; rotate_left)
        (refine' PG.val rfl rfl (by intro _X; (refine TL_guard_yes rfl rfl rfl ?_); refine TL_fieldAddr_el rfl rfl (fun w h => hrow1.sl h (fun x hx => by simp only [List.mem_append, List.mem_cons, hx, true_or, or_true])) hne ?_; exact qe) ?_; rotate_left)
        (refine' PG.val rfl rfl (by intro _X; (refine TL_guard_yes rfl rfl rfl ?_); refine TL_load_el1 (u := u) rfl rfl (fun w h => hrow1.sl h (fun x hx => by simp only [List.mem_append, List.mem_cons, hx, true_or, or_true])) hu rfl ?_; exact qe) ?_; rotate_left)
        (refine' PG.val rfl rfl (by intro _X; (refine TL_guard_yes rfl rfl rfl ?_); refine TL_gtr_f rfl rfl rfl (by first | omega | (dsimp only; omega)) ?_; exact qe) ?_; rotate_left)
        iterate 2 (refine' pv ?_; rotate_left)
        iterate 4 (refine' pg ?_; rotate_left)
        (refine' PG.val rfl rfl (by intro _X; (refine TL_guard_yes rfl rfl rfl ?_); refine TL_gtr_f rfl rfl rfl (by first | omega | (dsimp only; omega)) ?_; exact qe) ?_; rotate_left)
        iterate 2 (refine' pv ?_; rotate_left)
        iterate 2 (refine' pg ?_; rotate_left)
        (refine' PG.val rfl rfl (by intro _X; (refine TL_guard_yes rfl rfl rfl ?_); refine TL_eql_f rfl rfl rfl (by omega) ?_; exact qe) ?_; rotate_left)
        (refine' pg ?_; rotate_left)
        iterate 3 (refine' pv ?_; rotate_left)
        (refine' pg ?_; rotate_left)
        (refine' pv ?_; rotate_left)
        exact PG.nil
      change TL _ _ _ _ _ _ _ _ _ _ _
      repeat' (first | refine rn ?_ | (apply TL_box; exact rfl; exact rfl; exact rfl; intro _ _) | (apply TL_alloc; exact rfl; intro _ _) | (apply TL_buildSlice; exact rfl; exact rfl; exact rfl; exact rfl; exact rfl; intro _ _))
      refine TL_index i rfl rfl rfl (fun w h => hrow1.sl h (fun x hx => by simp only [List.mem_append, List.mem_cons, hx, true_or, or_true])) rfl (by omega) (Nat.le_refl _) ?_
      refine TL_fieldAddr_el rfl rfl (fun w h => hrow1.sl h (fun x hx => by simp only [List.mem_append, List.mem_cons, hx, true_or, or_true])) hne ?_
      refine TL_load_el1 (u := u) rfl rfl (fun w h => hrow1.sl h (fun x hx => by simp only [List.mem_append, List.mem_cons, hx, true_or, or_true])) hu rfl ?_
      refine TL_call rfl rfl rfl _ _ _ (fun w h => c40 S hS p (i : Int) u.1 _ m1 (fun h => ha.mono h) b3 b8 _ mm mm w h) (fun _ _ => ?_)
      repeat' (first | refine rn ?_ | (apply TL_box; exact rfl; exact rfl; exact rfl; intro _ _) | (apply TL_alloc; exact rfl; intro _ _) | (apply TL_buildSlice; exact rfl; exact rfl; exact rfl; exact rfl; exact rfl; intro _ _))
      refine TL_index i rfl rfl rfl (fun w h => hrow1.sl h (fun x hx => by simp only [List.mem_append, List.mem_cons, hx, true_or, or_true])) rfl (by omega) (Nat.le_refl _) ?_
      refine TL_guard_yes rfl rfl rfl ?_
      refine TL_fieldAddr_el rfl rfl (fun w h => hrow1.sl h (fun x hx => by simp only [List.mem_append, List.mem_cons, hx, true_or, or_true])) hne ?_
      refine TL_guard_yes rfl rfl rfl ?_
      refine TL_load_el1 (u := u) rfl rfl (fun w h => hrow1.sl h (fun x hx => by simp only [List.mem_append, List.mem_cons, hx, true_or, or_true])) hu rfl ?_
      repeat' (first | refine rn ?_ | (apply TL_box; exact rfl; exact rfl; exact rfl; intro _ _) | (apply TL_alloc; exact rfl; intro _ _) | (apply TL_buildSlice; exact rfl; exact rfl; exact rfl; exact rfl; exact rfl; intro _ _))
      refine TL_call rfl rfl rfl _ _ _ (fun w h => c40 S hS p (i : Int) u.2 _ m2 (fun h => ha.mono h) b3 b8 _ mm mm w h) (fun _ _ => ?_)
      repeat' (first | refine rn ?_ | (apply TL_box; exact rfl; exact rfl; exact rfl; intro _ _) | (apply TL_alloc; exact rfl; intro _ _) | (apply TL_buildSlice; exact rfl; exact rfl; exact rfl; exact rfl; exact rfl; intro _ _))
      refine TL_index i rfl rfl rfl (fun w h => hrow1.sl h (fun x hx => by simp only [List.mem_append, List.mem_cons, hx, true_or, or_true])) rfl (by omega) (Nat.le_refl _) ?_
      refine TL_guard_yes rfl rfl rfl ?_
      refine TL_fieldAddr_el rfl rfl (fun w h => hrow1.sl h (fun x hx => by simp only [List.mem_append, List.mem_cons, hx, true_or, or_true])) hne ?_
      refine TL_guard_yes rfl rfl rfl ?_
      refine TL_load_el1 (u := u) rfl rfl (fun w h => hrow1.sl h (fun x hx => by simp only [List.mem_append, List.mem_cons, hx, true_or, or_true])) hu rfl ?_
      repeat' (first | refine rn ?_ | (apply TL_box; exact rfl; exact rfl; exact rfl; intro _ _) | (apply TL_alloc; exact rfl; intro _ _) | (apply TL_buildSlice; exact rfl; exact rfl; exact rfl; exact rfl; exact rfl; intro _ _))
      refine TL_call rfl rfl rfl _ _ _ (fun w h => c40 S hS p (i : Int) (u.1 - 1) _ m3 (fun h => ha.mono h) b3 b8 _ mm mm w h) (fun _ _ => ?_)
      repeat' (first | refine rn ?_ | (apply TL_box; exact rfl; exact rfl; exact rfl; intro _ _) | (apply TL_alloc; exact rfl; intro _ _) | (apply TL_buildSlice; exact rfl; exact rfl; exact rfl; exact rfl; exact rfl; intro _ _))
      refine TL_index i rfl rfl rfl (fun w h => hrow1.sl h (fun x hx => by simp only [List.mem_append, List.mem_cons, hx, true_or, or_true])) rfl (by omega) (Nat.le_refl _) ?_
      refine TL_guard_yes rfl rfl rfl ?_
      refine TL_fieldAddr_el rfl rfl (fun w h => hrow1.sl h (fun x hx => by simp only [List.mem_append, List.mem_cons, hx, true_or, or_true])) hne ?_
      refine TL_guard_yes rfl rfl rfl ?_
      refine TL_load_el1 (u := u) rfl rfl (fun w h => hrow1.sl h (fun x hx => by simp only [List.mem_append, List.mem_cons, hx, true_or, or_true])) hu rfl ?_
      repeat' (first | refine rn ?_ | (apply TL_box; exact rfl; exact rfl; exact rfl; intro _ _) | (apply TL_alloc; exact rfl; intro _ _) | (apply TL_buildSlice; exact rfl; exact rfl; exact rfl; exact rfl; exact rfl; intro _ _))
      refine TL_call rfl rfl rfl _ _ _ (fun w h => c40 S hS p (i : Int) (u.2 + 1) _ m4 (fun h => ha.mono h) b3 b8 _ mm mm w h) (fun _ _ => ?_)
      repeat' (first | (refine TL_eql_f rfl rfl rfl (by omega) ?_) | refine r1 ?_ | (apply TL_box; exact rfl; exact rfl; exact rfl; intro _ _) | (apply TL_alloc; exact rfl; intro _ _) | (apply TL_buildSlice; exact rfl; exact rfl; exact rfl; exact rfl; exact rfl; intro _ _))
      refine TL_call rfl rfl rfl _ _ _ (fun w h => c41 S hS p (i : Int) (j : Int) f.1 _ s1 (fun h => ha.mono h) b3 b9 b8 _ mm mm mm w h) (fun _ _ => ?_)
      repeat' (first | refine rn ?_ | (apply TL_box; exact rfl; exact rfl; exact rfl; intro _ _) | (apply TL_alloc; exact rfl; intro _ _) | (apply TL_buildSlice; exact rfl; exact rfl; exact rfl; exact rfl; exact rfl; intro _ _))
      refine TL_call rfl rfl rfl _ _ _ (fun w h => c41 S hS p (i : Int) (j : Int) f.2 _ s2 (fun h => ha.mono h) b3 b9 b8 _ mm mm mm w h) (fun _ _ => ?_)
      repeat' (first | refine rn ?_ | (apply TL_box; exact rfl; exact rfl; exact rfl; intro _ _) | (apply TL_alloc; exact rfl; intro _ _) | (apply TL_buildSlice; exact rfl; exact rfl; exact rfl; exact rfl; exact rfl; intro _ _))
      refine TL_call rfl rfl rfl _ _ _ (fun w h => c41 S hS p (i : Int) (j : Int) (f.1 - 1) _ s3 (fun h => ha.mono h) b3 b9 b8 _ mm mm mm w h) (fun _ _ => ?_)
      repeat' (first | refine rn ?_ | (apply TL_box; exact rfl; exact rfl; exact rfl; intro _ _) | (apply TL_alloc; exact rfl; intro _ _) | (apply TL_buildSlice; exact rfl; exact rfl; exact rfl; exact rfl; exact rfl; intro _ _))
      refine TL_call rfl rfl rfl _ _ _ (fun w h => c41 S hS p (i : Int) (j : Int) (f.2 + 1) _ s4 (fun h => ha.mono h) b3 b9 b8 _ mm mm mm w h) (fun _ _ => ?_)
      repeat' (first | refine rn ?_ | (apply TL_box; exact rfl; exact rfl; exact rfl; intro _ _) | (apply TL_alloc; exact rfl; intro _ _) | (apply TL_buildSlice; exact rfl; exact rfl; exact rfl; exact rfl; exact rfl; intro _ _))
      exact TQ_ret1 Try.results7 (RV.tmp rfl) (fun w' hs => ⟨rfl, hs.below⟩)
end Go.Proofs.Ytoolblbdmmiahaa
