/- The walk of the statement LevelMore. -/
import Derived.Test.YtoolblbdmmiahaaL23
import Derived.Test.YtoolblbdmmiahaaL33
namespace Go.Proofs.Ytoolblbdmmiahaa
open Go Go.Eng Go.RowKit Go.Proofs
set_option maxHeartbeats 4000000
set_option maxRecDepth 10000
attribute [local irreducible] TL TC TQ

/-- Part T of what is known, and more. -/
structure Nar (S T : Sv) : Prop where
  okT : OkSv T
  pts : T.pts = S.pts
  thr : T.thr = S.thr
  mono : ∀ g, F0 T g → F0 S g
theorem Nar.tbl {S T : Sv} (hS : OkSv S) (h : Nar S T) (ok : okS T = true) : okS S = true ∧ ∀ i k, i < S.pts.toNat + 1 → k < S.pts.toNat + 1 → Go.Proofs.Ytoolblbdmmiahaa.tbl T i k ≤ Go.Proofs.Ytoolblbdmmiahaa.tbl S i k := tbl_mono hS h.okT h.pts h.mono ok
def betterSh (l : List Int) (x : Sh) : Sh := { x with rise := (x.rise.1 + partN (x.rise.2 - x.rise.1) l 1, x.rise.2 - partN (x.rise.2 - (x.rise.1 + partN (x.rise.2 - x.rise.1) l 1)) l 2) }
def betterS (S : Sv) (j : Nat) (l : List Int) (x : Sh) : Sv := { S with shots := S.shots.set j (betterSh l x) }
theorem better_rise {x : Sh} (l : List Int) (h : x.rise.1 ≤ x.rise.2) : (0 ≤ partN (x.rise.2 - x.rise.1) l 1 ∧ partN (x.rise.2 - x.rise.1) l 1 ≤ x.rise.2 - x.rise.1) ∧ (0 ≤ partN (x.rise.2 - (x.rise.1 + partN (x.rise.2 - x.rise.1) l 1)) l 2 ∧ partN (x.rise.2 - (x.rise.1 + partN (x.rise.2 - x.rise.1) l 1)) l 2 ≤ x.rise.2 - (x.rise.1 + partN (x.rise.2 - x.rise.1) l 1)) := by
  have p1 := partN_rg (n := x.rise.2 - x.rise.1) (by omega) l 1
  have p2 := partN_rg (n := x.rise.2 - (x.rise.1 + partN (x.rise.2 - x.rise.1) l 1)) (by omega) l 2
  exact ⟨p1, p2⟩
theorem better_nar {S : Sv} (hS : OkSv S) {j : Nat} {x : Sh} (hx : S.shots[j]? = some x) (l : List Int) : Nar S (betterS S j l x) := by
  have hlt := (List.getElem?_eq_some_iff.1 hx).1
  have hox := hS.2.2.2.2.1 x (List.mem_of_getElem? hx)
  have hb := better_rise l (x := x) (by have := hox.2; simp only [Ord] at this; omega)
  refine ⟨?_, rfl, rfl, fun g hg => ⟨hg.base, fun y hy => ?_, hg.marks⟩⟩
  · obtain ⟨h1, h2, h3, h4, h5, h6, h7⟩ := hS
    refine ⟨h1, by simpa [betterS] using h2, h3, h4, fun z hz => ?_, h6, h7⟩
    rcases List.mem_or_eq_of_mem_set hz with h | rfl
    · exact h5 z h
    · refine ⟨hox.1, ?_⟩
      have := hox.2
      simp only [Ord, betterSh] at *; omega
  · obtain ⟨i, hi⟩ := List.getElem?_of_mem hy
    by_cases hij : j = i
    · subst hij
      rw [hx] at hi; cases hi
      have h1 := hg.shots (betterSh l x) (List.mem_of_getElem? (i := j) (by simp [betterS, hlt]))
      simp only [betterSh] at h1; omega
    · exact hg.shots y (List.mem_of_getElem? (i := i) (by simp only [betterS]; rw [List.getElem?_set_ne hij]; exact hi))
theorem add_nar {S : Sv} {X : Sh} (h : OkSv (addShot S X)) : Nar S (addShot S X) := ⟨h, rfl, rfl, fun g hg => (F0_shot.1 hg).1⟩
def encP (q : Sv × Pl) : List Value := encSv q.1 q.2
theorem pmA {ob G H A : Hp} (h : (ob ++ G).Perm H) : (ob ++ (A ++ G)).Perm (A ++ H) := (List.perm_append_comm_assoc ob A G).trans (h.append_left A)
theorem nar_height {S T : Sv} (hS : OkSv S) (h : Nar S T) (ok : okS T = true) {i : Nat} (hi : i < S.pts.toNat) : ∃ x y : Sp, ((List.range S.pts.toNat).map (fun i => fallR (tbl S) i S.pts.toNat))[i]? = some x ∧ ((List.range T.pts.toNat).map (fun i => fallR (tbl T) i T.pts.toNat))[i]? = some y ∧ x.1 ≤ y.1 ∧ y.2 ≤ x.2 := by
  obtain ⟨_, ht⟩ := h.tbl hS ok
  refine ⟨_, _, heights_get S hi, heights_get T (by rw [h.pts]; exact hi), ?_, ?_⟩
  · rw [h.pts]
    have := ht i S.pts.toNat (by omega) (by omega)
    simp only [fallR]; omega
  · rw [h.pts]
    have := ht S.pts.toNat i (by omega) (by omega)
    simp only [fallR]; omega
theorem nar_slope {S T : Sv} (hS : OkSv S) (h : Nar S T) (ok : okS T = true) {k : Nat} {x : Th} (hx : S.thr[k]? = some x) : ∃ a b : Sp, slopeF S (k : Int) = (a, 0) ∧ slopeF T (k : Int) = (b, 0) ∧ a.1 ≤ b.1 ∧ b.2 ≤ a.2 := by
  obtain ⟨okSS, ht⟩ := h.tbl hS ok
  obtain ⟨⟨i1, i2, _⟩, ho⟩ := hS.2.2.2.2.2.2 x (List.mem_of_getElem? hx)
  simp only [Ord] at ho
  simp only [In] at i1 i2
  have t1 := ht x.fr.toNat x.to.toNat (by omega) (by omega)
  have t2 := ht x.to.toNat x.fr.toNat (by omega) (by omega)
  have hm := slope_mono (f := fallR (tbl S) x.fr.toNat x.to.toNat) (g := fallR (tbl T) x.fr.toNat x.to.toNat) (long := x.long) (by omega) (by omega) (by simp only [fallR]; omega) (by simp only [fallR]; omega)
  exact ⟨_, _, slopeF_at hS okSS hx, slopeF_at h.okT ok (by rw [h.thr]; exact hx), hm.1, hm.2⟩
theorem c11 (S : Sv) (p : Pl) (X : Sh) (l : List Int) (lo : Option Addr) (lc : Nat) (h1 : S.shots.length ≤ 9223372036854775807) (h2 : S.marks.length ≤ 9223372036854775807) (h3 : S.thr.length ≤ 9223372036854775807) (h4 : l.length ≤ 9223372036854775807) (w : World) (ha : SvAt w S p) (hb : Sl w 1 encI lo l) :
    Calls Try.prog 11 #[.agg (encSv S p).toArray, .agg (encSh X).toArray, .slice lo l.length lc] w (RetV w (.bool true)) := by
  refine enter (args := [.agg (encSv S p).toArray, .agg (encSh X).toArray, .slice lo l.length lc]) Try.func11 rfl Try.ntmps11 rfl (SH.refl _) ?_
  repeat' (first | refine rn ?_ | (apply TL_box; exact rfl; exact rfl; exact rfl; intro _ _) | (apply TL_alloc; exact rfl; intro _ _) | (apply TL_buildSlice; exact rfl; exact rfl; exact rfl; exact rfl; exact rfl; intro _ _))
  rename_i b3 _ b4 _
  refine TL_callV rfl rfl rfl (fun w _ => c35 w) ?_
  repeat' (first | refine rn ?_ | (apply TL_box; exact rfl; exact rfl; exact rfl; intro _ _) | (apply TL_alloc; exact rfl; intro _ _) | (apply TL_buildSlice; exact rfl; exact rfl; exact rfl; exact rfl; exact rfl; intro _ _))
  refine TL_callV rfl rfl rfl (fun w h => c36 S p h1 h2 h3 w (ha.mono h)) ?_
  by_cases hS : OkSv S
  rotate_left
  · rw [decide_eq_false hS]
    repeat' (first | refine rn ?_ | (apply TL_box; exact rfl; exact rfl; exact rfl; intro _ _) | (apply TL_alloc; exact rfl; intro _ _) | (apply TL_buildSlice; exact rfl; exact rfl; exact rfl; exact rfl; exact rfl; intro _ _))
    exact TQ_ret1 Try.results11 (RV.tmp rfl) (fun w' hs => ⟨rfl, hs.below⟩)
  rw [decide_eq_true hS]
  have hp := hS.1
  simp only [In] at hp
  have hl1 := hS.2.1
  have hl2 := hS.2.2.1
  have hl3 := hS.2.2.2.1
  repeat' (first | refine rn ?_ | (apply TL_box; exact rfl; exact rfl; exact rfl; intro _ _) | (apply TL_alloc; exact rfl; intro _ _) | (apply TL_buildSlice; exact rfl; exact rfl; exact rfl; exact rfl; exact rfl; intro _ _))
  refine TC_cond_dec rfl (fun g0 => ?_) (fun g0 => ?_)
  · repeat' (first | refine rn ?_ | (apply TL_box; exact rfl; exact rfl; exact rfl; intro _ _) | (apply TL_alloc; exact rfl; intro _ _) | (apply TL_buildSlice; exact rfl; exact rfl; exact rfl; exact rfl; exact rfl; intro _ _))
    exact TQ_ret1 Try.results11 (RV.tmp rfl) (fun w' hs => ⟨rfl, hs.below⟩)
  repeat' (first | refine rn ?_ | (apply TL_box; exact rfl; exact rfl; exact rfl; intro _ _) | (apply TL_alloc; exact rfl; intro _ _) | (apply TL_buildSlice; exact rfl; exact rfl; exact rfl; exact rfl; exact rfl; intro _ _))
  refine TL_callN rfl rfl rfl (fun w h => c16 S p (by omega) (by omega) (by omega) w (ha.mono h)) ?_
  rintro ⟨so1, sc1, ob1⟩ hrow1
  replace hrow1 : Row 36 2 encSp so1 sc1 ob1 (heightsF S).1 := hrow1
  change TL _ _ _ _ _ _ _ _ _ _ _
  dsimp only
  repeat' (first | refine rn ?_ | (apply TL_box; exact rfl; exact rfl; exact rfl; intro _ _) | (apply TL_alloc; exact rfl; intro _ _) | (apply TL_buildSlice; exact rfl; exact rfl; exact rfl; exact rfl; exact rfl; intro _ _))
  apply TC_draw 6; kernel_rfl; exact Try.mixed
  · (refine' pv ?_; rotate_left)
    (refine' PG.rel ((fun v h => ∃ q : Tw, TwAt S q ∧ v = .agg (encSv S q.p).toArray ∧ h = q.hp)) rfl rfl (by intro _X; refine TL_callN rfl rfl rfl (fun w h => c15 S p (by omega) (by omega) (by omega) w (ha.mono h)) ?_; rintro q hq; exact TL_nil (TQ_QR (h := q.hp) rfl ⟨q, hq, rfl, rfl⟩ (fun _ h => h))) ?_; rotate_left)
    (refine' pv ?_; rotate_left)
    (refine' PG.rel ((fun v h => ∃ q : Tw, TwAt S q ∧ v = .agg (encSv S q.p).toArray ∧ h = q.hp)) rfl rfl (by intro _X; refine TL_callN rfl rfl rfl (fun w h => c15 S p (by omega) (by omega) (by omega) w (ha.mono h)) ?_; rintro q hq; exact TL_nil (TQ_QR (h := q.hp) rfl ⟨q, hq, rfl, rfl⟩ (fun _ h => h))) ?_; rotate_left)
    iterate 2 (refine' pn ?_; rotate_left)
    exact PG.nil
  rintro _ _ ⟨b11, _, rfl, rfl⟩ _ _ ⟨b10, _, rfl, rfl⟩ _ _ ⟨z2, hz2, rfl, rfl⟩ _ _ ⟨z1, hz1, rfl, rfl⟩
  change TL _ _ _ _ _ _ _ _ _ _ _
  refine TL_hp (H := (b11, .cells [.int .i64 0, .slice none 0 0, .slice none 0 0, .slice none 0 0] 26) :: (b10, .cells [.int .i64 0, .slice none 0 0, .slice none 0 0, .slice none 0 0] 26) :: ((z2.hp ++ (z1.hp ++ [])) ++ (ob1 ++ ([(b4, .cells (encSh X) 78), (b3, .cells (encSv S p) 26)] : Hp)))) (H' := (b11, .cells [.int .i64 0, .slice none 0 0, .slice none 0 0, .slice none 0 0] 26) :: (b10, .cells [.int .i64 0, .slice none 0 0, .slice none 0 0, .slice none 0 0] 26) :: (z2.o3 ++ (z2.o2 ++ (z2.o1 ++ (z1.o3 ++ (z1.o2 ++ (z1.o1 ++ (ob1 ++ ([(b4, .cells (encSh X) 78), (b3, .cells (encSv S p) 26)] : Hp))))))))) (List.Perm.of_eq (by simp only [Tw.hp, List.append_assoc, List.append_nil])) ?_
  repeat' (first | refine rn ?_ | (apply TL_box; exact rfl; exact rfl; exact rfl; intro _ _) | (apply TL_alloc; exact rfl; intro _ _) | (apply TL_buildSlice; exact rfl; exact rfl; exact rfl; exact rfl; exact rfl; intro _ _))
  rename_i b49 _
  refine TL_appendE (l := S.shots) (l2 := [X]) (enc := encSh) (G := _) rfl (by rfl) rfl rfl rfl rfl (List.cons_ne_nil _ _) hz1.r1 (pm_cons (pm_cons (pm_cons (pmA (pmA (pmA (pmA (pmA pm_here)))))))) (fun w h => Sl.of_blk h mm (fun _ _ => rfl) ⟨[], by rfl⟩) (fun u _ => rfl) (by simp only [List.length_singleton]; omega) (by simp only [List.length_singleton, maxLen]; omega) (fun a1 c1 o1 hr1 => ?_)
  obtain ⟨pA, hpA⟩ : ∃ pA : Pl, pA = ⟨a1, c1, z1.p.a2, z1.p.c2, z1.p.a3, z1.p.c3⟩ := ⟨_, rfl⟩
  have hAl : (addShot S X).shots = S.shots ++ [X] := rfl
  have nA : (addShot S X).shots.length = S.shots.length + 1 := by rw [hAl]; simp
  have c21' := fun w h => c21 (addShot S X) pA (by omega) (show S.marks.length ≤ _ by omega) (show S.thr.length ≤ _ by omega) w h
  have eA : encSv (addShot S X) pA = [.int .i64 S.pts, .slice a1 (S.shots ++ [X]).length c1, .slice z1.p.a2 S.marks.length z1.p.c2, .slice z1.p.a3 S.thr.length z1.p.c3] := by rw [hpA]; rfl
  rw [eA] at c21'
  have hsA : ∀ {w0 w : World} {B : Nat} {K : Hp}, SH B w0 w K → (∀ x ∈ o1, x ∈ K) → (∀ x ∈ z1.o2, x ∈ K) → (∀ x ∈ z1.o3, x ∈ K) → SvAt w (addShot S X) pA := fun h m1 m2 m3 => by rw [hpA]; exact ⟨hr1.sl h m1, hz1.r2.sl h m2, hz1.r3.sl h m3⟩
  repeat' (first | refine rn ?_ | (apply TL_box; exact rfl; exact rfl; exact rfl; intro _ _) | (apply TL_alloc; exact rfl; intro _ _) | (apply TL_buildSlice; exact rfl; exact rfl; exact rfl; exact rfl; exact rfl; intro _ _))
  refine TL_callV rfl rfl rfl (fun w h => c21' w (hsA h (fun x hx => by simp only [List.mem_append, List.mem_cons, hx, true_or, or_true]) (fun x hx => by simp only [List.mem_append, List.mem_cons, hx, true_or, or_true]) (fun x hx => by simp only [List.mem_append, List.mem_cons, hx, true_or, or_true]))) ?_
  by_cases hA : OkSv (addShot S X)
  rotate_left
  · rw [checkS_no hA]
    repeat' (first | refine rn ?_ | (apply TL_box; exact rfl; exact rfl; exact rfl; intro _ _) | (apply TL_alloc; exact rfl; intro _ _) | (apply TL_buildSlice; exact rfl; exact rfl; exact rfl; exact rfl; exact rfl; intro _ _))
    exact TQ_ret1 Try.results11 (RV.tmp rfl) (fun w' hs => ⟨rfl, hs.below⟩)
  rw [checkS_ok hA]
  repeat' (first | refine rn ?_ | (apply TL_box; exact rfl; exact rfl; exact rfl; intro _ _) | (apply TL_alloc; exact rfl; intro _ _) | (apply TL_buildSlice; exact rfl; exact rfl; exact rfl; exact rfl; exact rfl; intro _ _))
  refine TC_join (σ := Sv × Hp) (fun q => Nar S q.1 ∧ RowE 78 4 encSh z2.p.a1 z2.p.c1 q.2 q.1.shots ∧ q.1.marks = S.marks ∧ q.1.thr = S.thr ∧ q.1.shots.length = S.shots.length ∧ encSv q.1 z2.p = encSv S z2.p)
    (fun q => [(2, .slice lo l.length lc), (3, .pointer (some ⟨b3, 0, none⟩)), (7, .bool true), (8, .slice so1 (heightsF S).1.length sc1), (9, .int .i64 (heightsF S).2), (10, .pointer (some ⟨b10, 0, none⟩)), (11, .pointer (some ⟨b11, 0, none⟩))]) (fun q => o1 ++ ((b49, .cells (encSh X) 78) :: (b11, .cells (encSv q.1 z2.p) 26) :: (b10, .cells (encSv (addShot S X) pA) 26) :: (z2.o3 ++ (z2.o2 ++ (q.2 ++ (z1.o3 ++ (z1.o2 ++ (ob1 ++ ([(b4, .cells (encSh X) 78), (b3, .cells (encSv S p) 26)] : Hp))))))))) ?_ (fun q hq => ?_)
  · refine TC_cond_dec rfl (fun g1 => ?_) (fun g1 => ?_)
    · have hj0 := partN_rg (n := (S.shots.length : Int) - 1) (by omega) l 0
      obtain ⟨j, hj⟩ : ∃ j : Nat, partN ((S.shots.length : Int) - 1) l 0 = (j : Int) := ⟨(partN ((S.shots.length : Int) - 1) l 0).toNat, by omega⟩
      have hlt : j < S.shots.length := by omega
      obtain ⟨x, hx⟩ : ∃ x, S.shots[j]? = some x := ⟨_, List.getElem?_eq_getElem hlt⟩
      have hne : S.shots ≠ [] := fun h => by rw [h] at hlt; simp at hlt
      have hox := (hS.2.2.2.2.1 x (List.mem_of_getElem? hx)).2
      simp only [Ord] at hox
      have hbr := better_rise l (x := x) (by omega)
      have c38' := c38 ((S.shots.length : Int) - 1) l 0 (by omega) (by omega) lo lc h4
      rw [hj] at c38'
      have c38a := c38 (x.rise.2 - x.rise.1) l 1 (by omega) (by omega) lo lc h4
      have c38b := c38 (x.rise.2 - (x.rise.1 + partN (x.rise.2 - x.rise.1) l 1)) l 2 (by omega) (by omega) lo lc h4
      have hr0 := hz2.r1.row hne
      repeat' (first | refine rn ?_ | (apply TL_box; exact rfl; exact rfl; exact rfl; intro _ _) | (apply TL_alloc; exact rfl; intro _ _) | (apply TL_buildSlice; exact rfl; exact rfl; exact rfl; exact rfl; exact rfl; intro _ _))
      apply TC_draw 8; kernel_rfl; exact Try.mixed
      · iterate 5 (refine' pv ?_; rotate_left)
        (refine' PG.val rfl rfl (by intro _X; refine TL_callV rfl rfl rfl (fun w h => c38' w (h.sl hb)) ?_; exact qe) ?_; rotate_left)
        (refine' PG.val rfl rfl (by intro _X; refine TL_index j rfl rfl rfl (fun w h => hr0.sl h (fun x hx => by simp only [List.mem_append, List.mem_cons, hx, true_or, or_true])) rfl hlt (Nat.le_refl _) ?_; exact qe) ?_; rotate_left)
        (refine' PG.val rfl rfl (by intro _X; refine TL_fieldAddr_el rfl rfl (fun w h => hr0.sl h (fun x hx => by simp only [List.mem_append, List.mem_cons, hx, true_or, or_true])) hne ?_; exact qe) ?_; rotate_left)
        exact PG.nil
      change TL _ _ _ _ _ _ _ _ _ _ _
      repeat' (first | refine rn ?_ | (apply TL_box; exact rfl; exact rfl; exact rfl; intro _ _) | (apply TL_alloc; exact rfl; intro _ _) | (apply TL_buildSlice; exact rfl; exact rfl; exact rfl; exact rfl; exact rfl; intro _ _))
      apply TC_draw 16; kernel_rfl; exact Try.mixed
      · (refine' pv ?_; rotate_left)
        (refine' PG.val rfl rfl (by intro _X; refine TL_nilCheck rfl rfl ?_; exact qe) ?_; rotate_left)
        (refine' PG.val rfl rfl (by intro _X; refine TL_fieldAddr_el rfl rfl (fun w h => hr0.sl h (fun x hx => by simp only [List.mem_append, List.mem_cons, hx, true_or, or_true])) hne ?_; exact qe) ?_; rotate_left)
        (refine' PG.val rfl rfl (by intro _X; refine TL_load_el1 (u := x) rfl rfl (fun w h => hr0.sl h (fun x hx => by simp only [List.mem_append, List.mem_cons, hx, true_or, or_true])) hx rfl ?_; exact qe) ?_; rotate_left)
        (refine' pv ?_; rotate_left)
        (refine' PG.val rfl rfl (by intro _X; refine TL_nilCheck rfl rfl ?_; exact qe) ?_; rotate_left)
        (refine' PG.val rfl rfl (by intro _X; refine TL_fieldAddr_el rfl rfl (fun w h => hr0.sl h (fun x hx => by simp only [List.mem_append, List.mem_cons, hx, true_or, or_true])) hne ?_; exact qe) ?_; rotate_left)
        (refine' PG.val rfl rfl (by intro _X; refine TL_load_el1 (u := x) rfl rfl (fun w h => hr0.sl h (fun x hx => by simp only [List.mem_append, List.mem_cons, hx, true_or, or_true])) hx rfl ?_; exact qe) ?_; rotate_left)
        (refine' pv ?_; rotate_left)
        (refine' PG.val rfl rfl (by intro _X; refine TL_nilCheck rfl rfl ?_; exact qe) ?_; rotate_left)
        (refine' PG.val rfl rfl (by intro _X; refine TL_fieldAddr_el rfl rfl (fun w h => hr0.sl h (fun x hx => by simp only [List.mem_append, List.mem_cons, hx, true_or, or_true])) hne ?_; exact qe) ?_; rotate_left)
        (refine' PG.val rfl rfl (by intro _X; refine TL_load_el1 (u := x) rfl rfl (fun w h => hr0.sl h (fun x hx => by simp only [List.mem_append, List.mem_cons, hx, true_or, or_true])) hx rfl ?_; exact qe) ?_; rotate_left)
        iterate 2 (refine' pv ?_; rotate_left)
        (refine' PG.val rfl rfl (by intro _X; refine TL_callV rfl rfl rfl (fun w h => c38a w (h.sl hb)) ?_; exact qe) ?_; rotate_left)
        (refine' pv ?_; rotate_left)
        exact PG.nil
      change TL _ _ _ _ _ _ _ _ _ _ _
      refine TL_nilCheck rfl rfl ?_
      refine TL_fieldAddr_el rfl rfl (fun w h => hr0.sl h (fun x hx => by simp only [List.mem_append, List.mem_cons, hx, true_or, or_true])) hne ?_
      refine TL_store_el (u := x) (u' := ({ x with rise := (x.rise.1 + partN (x.rise.2 - x.rise.1) l 1, x.rise.2) } : Sh)) (f := fun y => o1 ++ ((b49, .cells (encSh X) 78) :: (b11, .cells (encSv S z2.p) 26) :: (b10, .cells (encSv (addShot S X) pA) 26) :: (z2.o3 ++ (z2.o2 ++ (y ++ (z1.o3 ++ (z1.o2 ++ (ob1 ++ ([(b4, .cells (encSh X) 78), (b3, .cells (encSv S p) 26)] : Hp))))))))) hr0 (by rw [eA]; rfl) rfl rfl rfl rfl rfl hx rfl rfl (fun _ _ _ => up) (fun o2 hr2 => ?_)
      have hx2 : (S.shots.set j ({ x with rise := (x.rise.1 + partN (x.rise.2 - x.rise.1) l 1, x.rise.2) } : Sh))[j]? = some ({ x with rise := (x.rise.1 + partN (x.rise.2 - x.rise.1) l 1, x.rise.2) } : Sh) := by rw [List.getElem?_set_self hlt]
      have hne1 : S.shots.set j ({ x with rise := (x.rise.1 + partN (x.rise.2 - x.rise.1) l 1, x.rise.2) } : Sh) ≠ [] := fun h => by rw [h] at hx2; simp at hx2
      repeat' (first | refine rn ?_ | (apply TL_box; exact rfl; exact rfl; exact rfl; intro _ _) | (apply TL_alloc; exact rfl; intro _ _) | (apply TL_buildSlice; exact rfl; exact rfl; exact rfl; exact rfl; exact rfl; intro _ _))
      apply TC_draw 16; kernel_rfl; exact Try.mixed
      · (refine' pv ?_; rotate_left)
        (refine' PG.val rfl rfl (by intro _X; refine TL_nilCheck rfl rfl ?_; exact qe) ?_; rotate_left)
        (refine' PG.val rfl rfl (by intro _X; refine TL_fieldAddr_el rfl rfl (fun w h => hr2.sl h (fun x hx => by simp only [List.mem_append, List.mem_cons, hx, true_or, or_true])) hne1 ?_; exact qe) ?_; rotate_left)
        (refine' PG.val rfl rfl (by intro _X; refine TL_load_el1 (u := ({ x with rise := (x.rise.1 + partN (x.rise.2 - x.rise.1) l 1, x.rise.2) } : Sh)) rfl rfl (fun w h => hr2.sl h (fun x hx => by simp only [List.mem_append, List.mem_cons, hx, true_or, or_true])) hx2 rfl ?_; exact qe) ?_; rotate_left)
        (refine' pv ?_; rotate_left)
        (refine' PG.val rfl rfl (by intro _X; refine TL_nilCheck rfl rfl ?_; exact qe) ?_; rotate_left)
        (refine' PG.val rfl rfl (by intro _X; refine TL_fieldAddr_el rfl rfl (fun w h => hr2.sl h (fun x hx => by simp only [List.mem_append, List.mem_cons, hx, true_or, or_true])) hne1 ?_; exact qe) ?_; rotate_left)
        (refine' PG.val rfl rfl (by intro _X; refine TL_load_el1 (u := ({ x with rise := (x.rise.1 + partN (x.rise.2 - x.rise.1) l 1, x.rise.2) } : Sh)) rfl rfl (fun w h => hr2.sl h (fun x hx => by simp only [List.mem_append, List.mem_cons, hx, true_or, or_true])) hx2 rfl ?_; exact qe) ?_; rotate_left)
        (refine' pv ?_; rotate_left)
        (refine' PG.val rfl rfl (by intro _X; refine TL_nilCheck rfl rfl ?_; exact qe) ?_; rotate_left)
        (refine' PG.val rfl rfl (by intro _X; refine TL_fieldAddr_el rfl rfl (fun w h => hr2.sl h (fun x hx => by simp only [List.mem_append, List.mem_cons, hx, true_or, or_true])) hne1 ?_; exact qe) ?_; rotate_left)
        (refine' PG.val rfl rfl (by intro _X; refine TL_load_el1 (u := ({ x with rise := (x.rise.1 + partN (x.rise.2 - x.rise.1) l 1, x.rise.2) } : Sh)) rfl rfl (fun w h => hr2.sl h (fun x hx => by simp only [List.mem_append, List.mem_cons, hx, true_or, or_true])) hx2 rfl ?_; exact qe) ?_; rotate_left)
        iterate 2 (refine' pv ?_; rotate_left)
        (refine' PG.val rfl rfl (by intro _X; refine TL_callV rfl rfl rfl (fun w h => c38b w (h.sl hb)) ?_; exact qe) ?_; rotate_left)
        (refine' pv ?_; rotate_left)
        exact PG.nil
      change TL _ _ _ _ _ _ _ _ _ _ _
      refine TL_nilCheck rfl rfl ?_
      refine TL_fieldAddr_el rfl rfl (fun w h => hr2.sl h (fun x hx => by simp only [List.mem_append, List.mem_cons, hx, true_or, or_true])) hne1 ?_
      refine TL_store_el (u := ({ x with rise := (x.rise.1 + partN (x.rise.2 - x.rise.1) l 1, x.rise.2) } : Sh)) (u' := betterSh l x) (f := fun y => o1 ++ ((b49, .cells (encSh X) 78) :: (b11, .cells (encSv S z2.p) 26) :: (b10, .cells (encSv (addShot S X) pA) 26) :: (z2.o3 ++ (z2.o2 ++ (y ++ (z1.o3 ++ (z1.o2 ++ (ob1 ++ ([(b4, .cells (encSh X) 78), (b3, .cells (encSv S p) 26)] : Hp))))))))) hr2 rfl rfl rfl rfl rfl rfl hx2 rfl rfl (fun _ _ _ => up) (fun o3 hr3 => ?_)
      rw [List.set_set] at hr3
      have eB : encSv (betterS S j l x) z2.p = encSv S z2.p := by simp [encSv, betterS]
      repeat' (first | refine rn ?_ | (apply TL_box; exact rfl; exact rfl; exact rfl; intro _ _) | (apply TL_alloc; exact rfl; intro _ _) | (apply TL_buildSlice; exact rfl; exact rfl; exact rfl; exact rfl; exact rfl; intro _ _))
      exact TQ_mid (betterS S j l x, o3) ⟨better_nar hS hx l, .inl hr3, rfl, rfl, by simp [betterS], eB⟩ sb (fun w h => by dsimp only; rw [eB]; exact h)
    · repeat' (first | refine rn ?_ | (apply TL_box; exact rfl; exact rfl; exact rfl; intro _ _) | (apply TL_alloc; exact rfl; intro _ _) | (apply TL_buildSlice; exact rfl; exact rfl; exact rfl; exact rfl; exact rfl; intro _ _))
      exact TQ_mid (S, z2.o1) ⟨⟨hS, rfl, rfl, fun g hg => hg⟩, hz2.r1, rfl, rfl, rfl, rfl⟩ sb (fun w h => by dsimp only; rw [eA]; exact h)
  obtain ⟨T2, o2⟩ := q
  obtain ⟨hN2, hr2, em2, et2, el2, eB⟩ := hq
  dsimp only at hN2 hr2 em2 et2 el2 eB ⊢
  have hsB : ∀ {w0 w : World} {B : Nat} {K : Hp}, SH B w0 w K → (∀ x ∈ o2, x ∈ K) → (∀ x ∈ z2.o2, x ∈ K) → (∀ x ∈ z2.o3, x ∈ K) → SvAt w T2 z2.p := fun h m1 m2 m3 => ⟨hr2.sl h m1, by rw [em2]; exact hz2.r2.sl h m2, by rw [et2]; exact hz2.r3.sl h m3⟩
  repeat' (first | refine rn ?_ | (apply TL_box; exact rfl; exact rfl; exact rfl; intro _ _) | (apply TL_alloc; exact rfl; intro _ _) | (apply TL_buildSlice; exact rfl; exact rfl; exact rfl; exact rfl; exact rfl; intro _ _))
  rename_i bq _
  refine TC_loop (σ := Nat) (fun k => k ≤ 2) (fun k => [(2, .slice lo l.length lc), (3, .pointer (some ⟨b3, 0, none⟩)), (7, .bool true), (8, .slice so1 (heightsF S).1.length sc1), (9, .int .i64 (heightsF S).2), (107, .slice (some ⟨bq, 0, none⟩) 2 2), (108, .int .i64 2), (109, .int .i64 (k : Int))]) (fun _ => (bq, .cells (([(addShot S X, pA), (T2, z2.p)] : List (Sv × Pl)).flatMap encP) 26) :: (o1 ++ ((b49, .cells (encSh X) 78) :: (b11, .cells (encSv T2 z2.p) 26) :: (b10, .cells (encSv (addShot S X) pA) 26) :: (z2.o3 ++ (z2.o2 ++ (o2 ++ (z1.o3 ++ (z1.o2 ++ (ob1 ++ ([(b4, .cells (encSh X) 78), (b3, .cells (encSv S p) 26)] : Hp)))))))))) (fun k => 2 - k) 0 (by omega) sb (fun w h => h) (fun k hk => ?_)
  repeat' (first | refine rn ?_ | (apply TL_box; exact rfl; exact rfl; exact rfl; intro _ _) | (apply TL_alloc; exact rfl; intro _ _) | (apply TL_buildSlice; exact rfl; exact rfl; exact rfl; exact rfl; exact rfl; intro _ _))
  refine TC_cond_dec rfl (fun g1 => ?_) (fun g1 => ?_)
  rotate_left
  · repeat' (first | refine rn ?_ | (apply TL_box; exact rfl; exact rfl; exact rfl; intro _ _) | (apply TL_alloc; exact rfl; intro _ _) | (apply TL_buildSlice; exact rfl; exact rfl; exact rfl; exact rfl; exact rfl; intro _ _))
    exact TQ_ret1 Try.results11 (RV.tmp rfl) (fun w' hs => ⟨rfl, hs.below⟩)
  obtain ⟨T, q, hTq, hN, hsT⟩ : ∃ T q, ([(addShot S X, pA), (T2, z2.p)] : List (Sv × Pl))[k]? = some (T, q) ∧ Nar S T ∧ (∀ {w0 w : World} {B : Nat} {K : Hp}, SH B w0 w K → (∀ x ∈ o1, x ∈ K) → (∀ x ∈ z1.o2, x ∈ K) → (∀ x ∈ z1.o3, x ∈ K) → (∀ x ∈ o2, x ∈ K) → (∀ x ∈ z2.o2, x ∈ K) → (∀ x ∈ z2.o3, x ∈ K) → SvAt w T q) := by
    rcases k with _ | _ | k
    · exact ⟨_, _, rfl, add_nar hA, fun h m1 m2 m3 _ _ _ => hsA h m1 m2 m3⟩
    · exact ⟨_, _, rfl, hN2, fun h _ _ _ m1 m2 m3 => hsB h m1 m2 m3⟩
    · omega
  have t1 := hN.okT.2.1
  have t2 := hN.okT.2.2.1
  have t3 := hN.okT.2.2.2.1
  have c16' := fun w h => c16 T q (by omega) (by omega) (by omega) w h
  repeat' (first | refine rn ?_ | (apply TL_box; exact rfl; exact rfl; exact rfl; intro _ _) | (apply TL_alloc; exact rfl; intro _ _) | (apply TL_buildSlice; exact rfl; exact rfl; exact rfl; exact rfl; exact rfl; intro _ _))
  refine TL_index k rfl rfl rfl (fun w h => Sl.of_blk (l := ([(addShot S X, pA), (T2, z2.p)] : List (Sv × Pl))) (enc := encP) h mm (by intro y _; rfl) ⟨[], by rw [List.append_nil]⟩) rfl (by simp only [List.length_cons, List.length_nil]; omega) (Nat.le_refl _) ?_
  refine TL_load_eln (u := (T, q)) rfl rfl (fun w h => Sl.of_blk (l := ([(addShot S X, pA), (T2, z2.p)] : List (Sv × Pl))) (enc := encP) h mm (by intro y _; rfl) ⟨[], by rw [List.append_nil]⟩) hTq rfl ?_
  repeat' (first | refine rn ?_ | (apply TL_box; exact rfl; exact rfl; exact rfl; intro _ _) | (apply TL_alloc; exact rfl; intro _ _) | (apply TL_buildSlice; exact rfl; exact rfl; exact rfl; exact rfl; exact rfl; intro _ _))
  rename_i b15 _
  cases okT : okS T with
  | false =>
    rw [heightsF_no hN.okT okT] at c16'
    refine TL_callN rfl rfl rfl (fun w h => c16' w (hsT h (fun x hx => by simp only [List.mem_append, List.mem_cons, hx, true_or, or_true]) (fun x hx => by simp only [List.mem_append, List.mem_cons, hx, true_or, or_true]) (fun x hx => by simp only [List.mem_append, List.mem_cons, hx, true_or, or_true]) (fun x hx => by simp only [List.mem_append, List.mem_cons, hx, true_or, or_true]) (fun x hx => by simp only [List.mem_append, List.mem_cons, hx, true_or, or_true]) (fun x hx => by simp only [List.mem_append, List.mem_cons, hx, true_or, or_true]))) ?_
    rintro ⟨so2, sc2, ob2⟩ hrow2
    change TL _ _ _ _ _ _ _ _ _ _ _
    dsimp only
    repeat' (first | refine rn ?_ | (apply TL_box; exact rfl; exact rfl; exact rfl; intro _ _) | (apply TL_alloc; exact rfl; intro _ _) | (apply TL_buildSlice; exact rfl; exact rfl; exact rfl; exact rfl; exact rfl; intro _ _))
    refine TQ_round (k + 1) (by omega) (by omega) sb (fun w h => h.sub ((List.Sublist.cons _ (List.Sublist.refl _)).trans (List.sublist_append_right _ _)))
  | true =>
    obtain ⟨okSS, _⟩ := hN.tbl hS okT
    rw [heightsF_ok hN.okT okT] at c16'
    refine TL_callN rfl rfl rfl (fun w h => c16' w (hsT h (fun x hx => by simp only [List.mem_append, List.mem_cons, hx, true_or, or_true]) (fun x hx => by simp only [List.mem_append, List.mem_cons, hx, true_or, or_true]) (fun x hx => by simp only [List.mem_append, List.mem_cons, hx, true_or, or_true]) (fun x hx => by simp only [List.mem_append, List.mem_cons, hx, true_or, or_true]) (fun x hx => by simp only [List.mem_append, List.mem_cons, hx, true_or, or_true]) (fun x hx => by simp only [List.mem_append, List.mem_cons, hx, true_or, or_true]))) ?_
    rintro ⟨so2, sc2, ob2⟩ hrow2
    replace hrow2 : Row 36 2 encSp so2 sc2 ob2 ((List.range T.pts.toNat).map (fun i => fallR (tbl T) i T.pts.toNat)) := hrow2
    change TL _ _ _ _ _ _ _ _ _ _ _
    have hHS := heightsF_ok hS okSS
    rw [hHS] at hrow1
    replace hrow1 : Row 36 2 encSp so1 sc1 ob1 ((List.range S.pts.toNat).map (fun i => fallR (tbl S) i S.pts.toNat)) := hrow1
    have hnh := @nar_height S T hS hN okT
    have hnl : ((List.range S.pts.toNat).map (fun i => fallR (tbl S) i S.pts.toNat)).length = S.pts.toNat := by simp
    have hnm : ((List.range T.pts.toNat).map (fun i => fallR (tbl T) i T.pts.toNat)).length = S.pts.toNat := by simp [hN.pts]
    rw [hHS]
    dsimp only
    generalize (List.range S.pts.toNat).map (fun i => fallR (tbl S) i S.pts.toNat) = HS at *
    generalize (List.range T.pts.toNat).map (fun i => fallR (tbl T) i T.pts.toNat) = HT at *
    repeat' (first | (refine TL_neq_f rfl rfl rfl (by first | omega | (dsimp only; omega)) ?_) | refine r1 ?_ | (apply TL_box; exact rfl; exact rfl; exact rfl; intro _ _) | (apply TL_alloc; exact rfl; intro _ _) | (apply TL_buildSlice; exact rfl; exact rfl; exact rfl; exact rfl; exact rfl; intro _ _))
    refine TC_loop (σ := Nat) (fun i => i ≤ HS.length) (fun i => [(2, .slice lo l.length lc), (3, .pointer (some ⟨b3, 0, none⟩)), (7, .bool true), (8, .slice so1 HS.length sc1), (9, .int .i64 0), (15, .pointer (some ⟨b15, 0, none⟩)), (16, .slice so2 HT.length sc2), (107, .slice (some ⟨bq, 0, none⟩) 2 2), (108, .int .i64 2), (109, .int .i64 (k : Int)), (131, .slice so1 HS.length sc1), (132, .int .i64 HS.length), (133, .int .i64 (i : Int))]) (fun _ => ob2 ++ ((b15, .cells (encP (T, q)) 26) :: ((bq, .cells (([(addShot S X, pA), (T2, z2.p)] : List (Sv × Pl)).flatMap encP) 26) :: (o1 ++ ((b49, .cells (encSh X) 78) :: (b11, .cells (encSv T2 z2.p) 26) :: (b10, .cells (encSv (addShot S X) pA) 26) :: (z2.o3 ++ (z2.o2 ++ (o2 ++ (z1.o3 ++ (z1.o2 ++ (ob1 ++ ([(b4, .cells (encSh X) 78), (b3, .cells (encSv S p) 26)] : Hp)))))))))))) (fun i => HS.length - i) 0 (Nat.zero_le _) sb (fun w h => h) (fun i hi => ?_)
    repeat' (first | refine rn ?_ | (apply TL_box; exact rfl; exact rfl; exact rfl; intro _ _) | (apply TL_alloc; exact rfl; intro _ _) | (apply TL_buildSlice; exact rfl; exact rfl; exact rfl; exact rfl; exact rfl; intro _ _))
    refine TC_cond_dec rfl (fun g2 => ?_) (fun g2 => ?_)
    · have hlt : i < HS.length := by omega
      obtain ⟨x, y, hx, hy, hxy1, hxy2⟩ := hnh (i := i) (by omega)
      have hne1 : HS ≠ [] := fun h => by rw [h] at hx; simp at hx
      have hne2 : HT ≠ [] := fun h => by rw [h] at hy; simp at hy
      repeat' (first | refine rn ?_ | (apply TL_box; exact rfl; exact rfl; exact rfl; intro _ _) | (apply TL_alloc; exact rfl; intro _ _) | (apply TL_buildSlice; exact rfl; exact rfl; exact rfl; exact rfl; exact rfl; intro _ _))
      apply TC_draw 24; kernel_rfl; exact Try.mixed
      · iterate 2 (refine' pv ?_; rotate_left)
        (refine' PG.val rfl rfl (by intro _X; refine TL_index i rfl rfl rfl (fun w h => hrow2.sl h (fun x hx => by simp only [List.mem_append, List.mem_cons, hx, true_or, or_true])) rfl (by omega) (Nat.le_refl _) ?_; exact qe) ?_; rotate_left)
        (refine' PG.val rfl rfl (by intro _X; refine TL_fieldAddr_el rfl rfl (fun w h => hrow2.sl h (fun x hx => by simp only [List.mem_append, List.mem_cons, hx, true_or, or_true])) hne2 ?_; exact qe) ?_; rotate_left)
        (refine' PG.val rfl rfl (by intro _X; refine TL_load_el1 (u := y) rfl rfl (fun w h => hrow2.sl h (fun x hx => by simp only [List.mem_append, List.mem_cons, hx, true_or, or_true])) hy rfl ?_; exact qe) ?_; rotate_left)
        iterate 2 (refine' pv ?_; rotate_left)
        (refine' PG.val rfl rfl (by intro _X; refine TL_index i rfl rfl rfl (fun w h => hrow1.sl h (fun x hx => by simp only [List.mem_append, List.mem_cons, hx, true_or, or_true])) rfl (by omega) (Nat.le_refl _) ?_; exact qe) ?_; rotate_left)
        (refine' PG.val rfl rfl (by intro _X; refine TL_fieldAddr_el rfl rfl (fun w h => hrow1.sl h (fun x hx => by simp only [List.mem_append, List.mem_cons, hx, true_or, or_true])) hne1 ?_; exact qe) ?_; rotate_left)
        (refine' PG.val rfl rfl (by intro _X; refine TL_load_el1 (u := x) rfl rfl (fun w h => hrow1.sl h (fun x hx => by simp only [List.mem_append, List.mem_cons, hx, true_or, or_true])) hx rfl ?_; exact qe) ?_; rotate_left)
        (refine' PG.val rfl rfl (by intro _X; refine TL_lss_f rfl rfl rfl (by first | omega | (dsimp only; omega)) ?_; exact qe) ?_; rotate_left)
        (refine' pv ?_; rotate_left)
        iterate 2 (refine' pg ?_; rotate_left)
        (refine' PG.val rfl rfl (by intro _X; (refine TL_guard_yes rfl rfl rfl ?_); refine TL_index i rfl rfl rfl (fun w h => hrow2.sl h (fun x hx => by simp only [List.mem_append, List.mem_cons, hx, true_or, or_true])) rfl (by omega) (Nat.le_refl _) ?_; exact qe) ?_; rotate_left)
        (refine' PG.val rfl rfl (by intro _X; (refine TL_guard_yes rfl rfl rfl ?_); refine TL_fieldAddr_el rfl rfl (fun w h => hrow2.sl h (fun x hx => by simp only [List.mem_append, List.mem_cons, hx, true_or, or_true])) hne2 ?_; exact qe) ?_; rotate_left)
        (refine' PG.val rfl rfl (by intro _X; (refine TL_guard_yes rfl rfl rfl ?_); refine TL_load_el1 (u := y) rfl rfl (fun w h => hrow2.sl h (fun x hx => by simp only [List.mem_append, List.mem_cons, hx, true_or, or_true])) hy rfl ?_; exact qe) ?_; rotate_left)
        iterate 2 (refine' pg ?_; rotate_left)
        (refine' PG.val rfl rfl (by intro _X; (refine TL_guard_yes rfl rfl rfl ?_); refine TL_index i rfl rfl rfl (fun w h => hrow1.sl h (fun x hx => by simp only [List.mem_append, List.mem_cons, hx, true_or, or_true])) rfl (by omega) (Nat.le_refl _) ?_; exact qe) ?_; rotate_left)
        (refine' PG.val rfl rfl (by intro _X; (refine TL_guard_yes rfl rfl rfl ?_); refine TL_fieldAddr_el rfl rfl (fun w h => hrow1.sl h (fun x hx => by simp only [List.mem_append, List.mem_cons, hx, true_or, or_true])) hne1 ?_; exact qe) ?_; rotate_left)
        (refine' PG.val rfl rfl (by intro _X; (refine TL_guard_yes rfl rfl rfl ?_); refine TL_load_el1 (u := x) rfl rfl (fun w h => hrow1.sl h (fun x hx => by simp only [List.mem_append, List.mem_cons, hx, true_or, or_true])) hx rfl ?_; exact qe) ?_; rotate_left)
        (refine' PG.val rfl rfl (by intro _X; (refine TL_guard_yes rfl rfl rfl ?_); refine TL_gtr_f rfl rfl rfl (by first | omega | (dsimp only; omega)) ?_; exact qe) ?_; rotate_left)
        (refine' pv ?_; rotate_left)
        exact PG.nil
      change TL _ _ _ _ _ _ _ _ _ _ _
      repeat' (first | refine rn ?_ | (apply TL_box; exact rfl; exact rfl; exact rfl; intro _ _) | (apply TL_alloc; exact rfl; intro _ _) | (apply TL_buildSlice; exact rfl; exact rfl; exact rfl; exact rfl; exact rfl; intro _ _))
      refine TQ_round (i + 1) hlt (by omega) sb (fun w h => h)
    repeat' (first | refine rn ?_ | (apply TL_box; exact rfl; exact rfl; exact rfl; intro _ _) | (apply TL_alloc; exact rfl; intro _ _) | (apply TL_buildSlice; exact rfl; exact rfl; exact rfl; exact rfl; exact rfl; intro _ _))
    refine TC_loop (σ := Nat) (fun i => i ≤ S.thr.length) (fun i => [(2, .slice lo l.length lc), (3, .pointer (some ⟨b3, 0, none⟩)), (7, .bool true), (8, .slice so1 HS.length sc1), (9, .int .i64 0), (15, .pointer (some ⟨b15, 0, none⟩)), (107, .slice (some ⟨bq, 0, none⟩) 2 2), (108, .int .i64 2), (109, .int .i64 (k : Int)), (163, .int .i64 S.thr.length), (164, .int .i64 (i : Int))]) (fun _ => (b15, .cells (encP (T, q)) 26) :: ((bq, .cells (([(addShot S X, pA), (T2, z2.p)] : List (Sv × Pl)).flatMap encP) 26) :: (o1 ++ ((b49, .cells (encSh X) 78) :: (b11, .cells (encSv T2 z2.p) 26) :: (b10, .cells (encSv (addShot S X) pA) 26) :: (z2.o3 ++ (z2.o2 ++ (o2 ++ (z1.o3 ++ (z1.o2 ++ (ob1 ++ ([(b4, .cells (encSh X) 78), (b3, .cells (encSv S p) 26)] : Hp))))))))))) (fun i => S.thr.length - i) 0 (Nat.zero_le _) sb (fun w h => h.sub (List.sublist_append_right _ _)) (fun i hi => ?_)
    repeat' (first | refine rn ?_ | (apply TL_box; exact rfl; exact rfl; exact rfl; intro _ _) | (apply TL_alloc; exact rfl; intro _ _) | (apply TL_buildSlice; exact rfl; exact rfl; exact rfl; exact rfl; exact rfl; intro _ _))
    refine TC_cond_dec rfl (fun g3 => ?_) (fun g3 => ?_)
    · have hlt : i < S.thr.length := by omega
      obtain ⟨x, hx⟩ : ∃ x, S.thr[i]? = some x := ⟨_, List.getElem?_eq_getElem hlt⟩
      obtain ⟨a, b, e1, e2, hab1, hab2⟩ := nar_slope hS hN okT hx
      have f1 := fun w h => c31 S p (i : Int) (by omega) (by omega) (by omega) w h
      have f2 := fun w h => c31 T q (i : Int) (by omega) (by omega) (by omega) w h
      rw [e1] at f1
      rw [e2] at f2
      repeat' (first | refine rn ?_ | (apply TL_box; exact rfl; exact rfl; exact rfl; intro _ _) | (apply TL_alloc; exact rfl; intro _ _) | (apply TL_buildSlice; exact rfl; exact rfl; exact rfl; exact rfl; exact rfl; intro _ _))
      refine TL_callV rfl rfl rfl (fun w h => f1 w (ha.mono h)) ?_
      repeat' (first | refine rn ?_ | (apply TL_box; exact rfl; exact rfl; exact rfl; intro _ _) | (apply TL_alloc; exact rfl; intro _ _) | (apply TL_buildSlice; exact rfl; exact rfl; exact rfl; exact rfl; exact rfl; intro _ _))
      refine TL_callV rfl rfl rfl (fun w h => f2 w (hsT h (fun x hx => by simp only [List.mem_append, List.mem_cons, hx, true_or, or_true]) (fun x hx => by simp only [List.mem_append, List.mem_cons, hx, true_or, or_true]) (fun x hx => by simp only [List.mem_append, List.mem_cons, hx, true_or, or_true]) (fun x hx => by simp only [List.mem_append, List.mem_cons, hx, true_or, or_true]) (fun x hx => by simp only [List.mem_append, List.mem_cons, hx, true_or, or_true]) (fun x hx => by simp only [List.mem_append, List.mem_cons, hx, true_or, or_true]))) ?_
      repeat' (first | (refine TL_lss_f rfl rfl rfl (by first | omega | (dsimp only; omega)) ?_) | (refine TL_gtr_f rfl rfl rfl (by first | omega | (dsimp only; omega)) ?_) | refine r1 ?_ | (apply TL_box; exact rfl; exact rfl; exact rfl; intro _ _) | (apply TL_alloc; exact rfl; intro _ _) | (apply TL_buildSlice; exact rfl; exact rfl; exact rfl; exact rfl; exact rfl; intro _ _))
      refine TQ_round (i + 1) hlt (by omega) sb (fun w h => h.sub (List.Sublist.cons _ (List.Sublist.cons _ (List.Sublist.refl _))))
    repeat' (first | refine rn ?_ | (apply TL_box; exact rfl; exact rfl; exact rfl; intro _ _) | (apply TL_alloc; exact rfl; intro _ _) | (apply TL_buildSlice; exact rfl; exact rfl; exact rfl; exact rfl; exact rfl; intro _ _))
    refine TQ_round (k + 1) (by omega) (by omega) sb (fun w h => h.sub (List.Sublist.cons _ (List.Sublist.refl _)))
end Go.Proofs.Ytoolblbdmmiahaa
