/- The walk of the statement LevelThread. -/
import Derived.Test.YtoolblbdmmiahaaL32
namespace Go.Proofs.Ytoolblbdmmiahaa
open Go Go.Eng Go.RowKit Go.Proofs
set_option maxHeartbeats 4000000
set_option maxRecDepth 10000
attribute [local irreducible] TL TC TQ

def setT (S : Sv) (k : Nat) (y : Th) : Sv := { S with thr := S.thr.set k y }
theorem rdT_thr (S : Sv) (t : List Th) (o : Nat → Bool) (w : Int) : ∀ m, rdT { S with thr := t } o w m = rdT S o w m := by
  intro m
  induction m with
  | zero => rfl
  | succ m ih => rw [rdT, rdT, ih]; rfl
theorem solve_thr (S : Sv) (t : List Th) (o : Nat → Bool) (w : Int) : solveR { S with thr := t } o w = solveR S o w := by
  unfold solveR
  rw [rdT_thr]; rfl
theorem okS_thr (S : Sv) (t : List Th) : okS { S with thr := t } = okS S := by unfold okS; rw [solve_thr]
theorem tbl_thr (S : Sv) (t : List Th) : tbl { S with thr := t } = tbl S := by unfold tbl; rw [solve_thr]
theorem setT_ok {S : Sv} (hS : OkSv S) {k : Nat} {y : Th} (hy : OkTh S.pts y) : OkSv (setT S k y) := by
  obtain ⟨h1, h2, h3, h4, h5, h6, h7⟩ := hS
  refine ⟨h1, h2, h3, by simpa [setT] using h4, h5, h6, fun z hz => ?_⟩
  rcases List.mem_or_eq_of_mem_set hz with h | rfl
  · exact h7 z h
  · exact hy
theorem encSv_setT (S : Sv) (k : Nat) (y : Th) (p : Pl) : encSv (setT S k y) p = encSv S p := by simp [encSv, setT]
theorem slopeF_at {S : Sv} (hS : OkSv S) (ok : okS S = true) {k : Nat} {x : Th} (hx : S.thr[k]? = some x) : slopeF S (k : Int) = (slopeR (fallR (tbl S) x.fr.toNat x.to.toNat) x.long, 0) := by
  have hlt : k < S.thr.length := (List.getElem?_eq_some_iff.1 hx).1
  unfold slopeF
  rw [if_neg (not_not_intro hS), if_neg (not_not_intro (by simp only [In]; omega)), if_pos ok, Int.toNat_natCast, hx]
theorem slopeF_no {S : Sv} (hS : OkSv S) (ok : okS S = false) {k : Nat} (hk : k < S.thr.length) : slopeF S (k : Int) = ((0, 0), 11) := by
  unfold slopeF
  rw [if_neg (not_not_intro hS), if_neg (not_not_intro (by simp only [In]; omega)), if_neg (by rw [ok]; simp)]
theorem slopeF_set {S : Sv} (hS : OkSv S) (ok : okS S = true) {k : Nat} (hk : k < S.thr.length) {y : Th} (hy : OkTh S.pts y) : slopeF (setT S k y) (k : Int) = (slopeR (fallR (tbl S) y.fr.toNat y.to.toNat) y.long, 0) := by
  rw [slopeF_at (setT_ok hS hy) (by unfold setT; rw [okS_thr]; exact ok) (x := y) (by simp [setT, hk])]
  unfold setT; rw [tbl_thr]
theorem divB {x L M : Int} (hL : 0 < L) (h0 : 0 ≤ M) (h1 : -M ≤ x) (h2 : x ≤ M) : -M ≤ x / L ∧ x / L ≤ M := by
  constructor
  · refine (Int.le_ediv_iff_mul_le hL).2 ?_
    have : M * 1 ≤ M * L := Int.mul_le_mul_of_nonneg_left (by omega) h0
    rw [Int.neg_mul]; omega
  · by_cases hx : 0 ≤ x
    · have := Int.ediv_le_self L hx; omega
    · have := Int.ediv_neg_of_neg_of_pos (a := x) (b := L) (by omega) hL; omega
theorem slope_B {f long : Sp} (h0 : 0 < long.1) (h1 : long.1 ≤ long.2) (b1 : -20000000 ≤ f.1 ∧ f.1 ≤ 20000000) (b2 : -20000000 ≤ f.2 ∧ f.2 ≤ 20000000) :
    (-20000000000 ≤ (slopeR f long).1 ∧ (slopeR f long).1 ≤ 20000000000) ∧ (-20000000000 ≤ (slopeR f long).2 ∧ (slopeR f long).2 ≤ 20000000000) := by
  have a1 := divB (x := f.1 * 1000) (L := long.1) (M := 20000000000) h0 (by omega) (by omega) (by omega)
  have a2 := divB (x := f.1 * 1000) (L := long.2) (M := 20000000000) (by omega) (by omega) (by omega) (by omega)
  have a3 := divB (x := -(f.2 * 1000)) (L := long.1) (M := 20000000000) h0 (by omega) (by omega) (by omega)
  have a4 := divB (x := -(f.2 * 1000)) (L := long.2) (M := 20000000000) (by omega) (by omega) (by omega) (by omega)
  simp only [slopeR]
  constructor
  · split <;> omega
  · split <;> omega
theorem thread_law {S : Sv} (hS : OkSv S) (ok : okS S = true) {k : Nat} {x : Th} (hx : S.thr[k]? = some x) {m : Int} (hm : 0 ≤ m ∧ m ≤ x.long.2 - x.long.1) :
    ∃ v a : Sp, slopeF S (k : Int) = (v, 0) ∧ slopeF (setT S k ⟨x.fr, x.to, (x.long.1 + m, x.long.2)⟩) (k : Int) = (a, 0) ∧ slopeF (setT S k ⟨x.to, x.fr, x.long⟩) (k : Int) = ((-v.2, -v.1), 0) ∧ (v.1 ≤ a.1 ∧ a.2 ≤ v.2) ∧
      (-20000000000 ≤ v.1 ∧ v.1 ≤ 20000000000) ∧ (-20000000000 ≤ v.2 ∧ v.2 ≤ 20000000000) ∧
      (2 * x.long.2 ≤ 100000000 → ∃ c : Sp, slopeF (setT S k ⟨x.fr, x.to, (2 * x.long.1, 2 * x.long.2)⟩) (k : Int) = (c, 0) ∧ ((c.1 - 1) * 2 ≤ v.1 ∧ v.1 - 1 ≤ c.1 * 2 ∧ v.2 ≤ (c.2 + 1) * 2 ∧ c.2 * 2 ≤ v.2 + 1) ∧ (-20000000000 ≤ c.1 ∧ c.1 ≤ 20000000000) ∧ (-20000000000 ≤ c.2 ∧ c.2 ≤ 20000000000)) := by
  have hlt : k < S.thr.length := (List.getElem?_eq_some_iff.1 hx).1
  have hox := hS.2.2.2.2.2.2 x (List.mem_of_getElem? hx)
  obtain ⟨⟨i1, i2, i3⟩, hl⟩ := hox
  simp only [Ord] at hl
  have j1 := i1
  have j2 := i2
  simp only [In] at j1 j2
  have b1 := tbl_B hS ok (i := x.fr.toNat) (k := x.to.toNat) (by omega) (by omega)
  have b2 := tbl_B hS ok (i := x.to.toNat) (k := x.fr.toNat) (by omega) (by omega)
  have bB : ∀ {long : Sp}, 0 < long.1 → long.1 ≤ long.2 → (-20000000000 ≤ (slopeR (fallR (tbl S) x.fr.toNat x.to.toNat) long).1 ∧ (slopeR (fallR (tbl S) x.fr.toNat x.to.toNat) long).1 ≤ 20000000000) ∧ (-20000000000 ≤ (slopeR (fallR (tbl S) x.fr.toNat x.to.toNat) long).2 ∧ (slopeR (fallR (tbl S) x.fr.toNat x.to.toNat) long).2 ≤ 20000000000) :=
    fun h0 h1 => slope_B h0 h1 (by simp only [fallR]; omega) (by simp only [fallR]; omega)
  refine ⟨_, _, slopeF_at hS ok hx, slopeF_set hS ok hlt (y := ⟨x.fr, x.to, (x.long.1 + m, x.long.2)⟩) ⟨⟨i1, i2, i3⟩, by simp only [Ord]; omega⟩, ?_, ?_, (bB (by omega) (by omega)).1, (bB (by omega) (by omega)).2, fun h => ⟨_, slopeF_set hS ok hlt (y := ⟨x.fr, x.to, (2 * x.long.1, 2 * x.long.2)⟩) ⟨⟨i1, i2, i3⟩, by simp only [Ord]; omega⟩, ?_, (bB (by dsimp only; omega) (by dsimp only; omega)).1, (bB (by dsimp only; omega) (by dsimp only; omega)).2⟩⟩
  · rw [slopeF_set hS ok hlt (y := ⟨x.to, x.fr, x.long⟩) ⟨⟨i2, i1, fun h => i3 h.symm⟩, hl⟩]
    rw [← slope_back]
    simp only [fallR, Int.neg_neg]
  · exact slope_known (f := fallR (tbl S) x.fr.toNat x.to.toNat) (a := x.long.1) (b := x.long.2) (by omega) (by omega) (by omega)
  · exact slope_long (f := fallR (tbl S) x.fr.toNat x.to.toNat) (a := x.long.1) (b := x.long.2) (by omega) (by omega)
theorem c13 (S : Sv) (p : Pl) (wh : Int) (l : List Int) (lo : Option Addr) (lc : Nat) (gw : 0 ≤ wh ∧ wh ≤ 255) (h1 : S.shots.length ≤ 9223372036854775807) (h2 : S.marks.length ≤ 9223372036854775807) (h3 : S.thr.length ≤ 9223372036854775807) (h4 : l.length ≤ 9223372036854775807) (w : World) (ha : SvAt w S p) (hb : Sl w 1 encI lo l) :
    Calls Try.prog 13 #[.agg (encSv S p).toArray, .int .u8 wh, .slice lo l.length lc] w (RetV w (.bool true)) := by
  refine enter (args := [.agg (encSv S p).toArray, .int .u8 wh, .slice lo l.length lc]) Try.func13 rfl Try.ntmps13 rfl (SH.refl _) ?_
  repeat' (first | refine rn ?_ | (apply TL_box; exact rfl; exact rfl; exact rfl; intro _ _) | (apply TL_alloc; exact rfl; intro _ _) | (apply TL_buildSlice; exact rfl; exact rfl; exact rfl; exact rfl; exact rfl; intro _ _))
  rename_i b3 _
  refine TL_callV rfl rfl rfl (fun w _ => c35 w) ?_
  repeat' (first | refine rn ?_ | (apply TL_box; exact rfl; exact rfl; exact rfl; intro _ _) | (apply TL_alloc; exact rfl; intro _ _) | (apply TL_buildSlice; exact rfl; exact rfl; exact rfl; exact rfl; exact rfl; intro _ _))
  refine TL_callV rfl rfl rfl (fun w h => c36 S p h1 h2 h3 w (ha.mono h)) ?_
  by_cases hS : OkSv S
  rotate_left
  · rw [decide_eq_false hS]
    repeat' (first | refine rn ?_ | (apply TL_box; exact rfl; exact rfl; exact rfl; intro _ _) | (apply TL_alloc; exact rfl; intro _ _) | (apply TL_buildSlice; exact rfl; exact rfl; exact rfl; exact rfl; exact rfl; intro _ _))
    exact TQ_ret1 Try.results13 (RV.tmp rfl) (fun w' hs => ⟨rfl, hs.below⟩)
  rw [decide_eq_true hS]
  have hl1 := hS.2.1
  have hl2 := hS.2.2.1
  have hl3 := hS.2.2.2.1
  repeat' (first | refine rn ?_ | (apply TL_box; exact rfl; exact rfl; exact rfl; intro _ _) | (apply TL_alloc; exact rfl; intro _ _) | (apply TL_buildSlice; exact rfl; exact rfl; exact rfl; exact rfl; exact rfl; intro _ _))
  refine TC_cond_dec rfl (fun g0 => ?_) (fun g0 => ?_)
  · repeat' (first | refine rn ?_ | (apply TL_box; exact rfl; exact rfl; exact rfl; intro _ _) | (apply TL_alloc; exact rfl; intro _ _) | (apply TL_buildSlice; exact rfl; exact rfl; exact rfl; exact rfl; exact rfl; intro _ _))
    exact TQ_ret1 Try.results13 (RV.tmp rfl) (fun w' hs => ⟨rfl, hs.below⟩)
  have gk := mod_rg (n := (S.thr.length : Int)) gw.1 (by omega)
  obtain ⟨k, hk⟩ : ∃ k : Nat, wh % (S.thr.length : Int) = (k : Int) := ⟨(wh % (S.thr.length : Int)).toNat, by omega⟩
  have hlt : k < S.thr.length := by omega
  obtain ⟨x, hx⟩ : ∃ x, S.thr[k]? = some x := ⟨_, List.getElem?_eq_getElem hlt⟩
  have hox := (hS.2.2.2.2.2.2 x (List.mem_of_getElem? hx)).2
  simp only [Ord] at hox
  have hne : S.thr ≠ [] := fun h => by rw [h] at hlt; simp at hlt
  repeat' (first | (refine TL_conv_same rfl rfl (wrap_i64_in gw.1 (by omega)) ?_) | refine r1 ?_ | (apply TL_box; exact rfl; exact rfl; exact rfl; intro _ _) | (apply TL_alloc; exact rfl; intro _ _) | (apply TL_buildSlice; exact rfl; exact rfl; exact rfl; exact rfl; exact rfl; intro _ _))
  rw [hk]
  have c31' := fun (S' : Sv) (p : Pl) (e1 : S'.shots.length = S.shots.length) (e2 : S'.marks.length = S.marks.length) (e3 : S'.thr.length = S.thr.length) w h => c31 S' p (k : Int) (by omega) (by omega) (by omega) w h
  cases ok : okS S with
  | false =>
    have f1 := c31' S p rfl rfl rfl
    rw [slopeF_no hS ok hlt] at f1
    refine TL_callV rfl rfl rfl (fun w h => f1 w (ha.mono h)) ?_
    repeat' (first | (refine TL_eql_same rfl rfl rfl ?_) | refine r1 ?_ | (apply TL_box; exact rfl; exact rfl; exact rfl; intro _ _) | (apply TL_alloc; exact rfl; intro _ _) | (apply TL_buildSlice; exact rfl; exact rfl; exact rfl; exact rfl; exact rfl; intro _ _))
    exact TQ_ret1 Try.results13 (RV.tmp rfl) (fun w' hs => ⟨rfl, hs.below⟩)
  | true =>
    have hpt := partN_rg (n := x.long.2 - x.long.1) (by omega) l 0
    obtain ⟨v, a, e1, e2, e3, ⟨q1, q2⟩, b1, b2, hlong⟩ := thread_law hS ok hx hpt
    have f1 := c31' S p rfl rfl rfl
    rw [e1] at f1
    have f2 := c31' (setT S k ⟨x.fr, x.to, (x.long.1 + partN (x.long.2 - x.long.1) l 0, x.long.2)⟩)
    rw [e2] at f2
    have f3 := c31' (setT S k ⟨x.to, x.fr, x.long⟩)
    rw [e3] at f3
    simp only [encSv_setT] at f2 f3
    refine TL_callV rfl rfl rfl (fun w h => f1 w (ha.mono h)) ?_
    repeat' (first | refine rn ?_ | (apply TL_box; exact rfl; exact rfl; exact rfl; intro _ _) | (apply TL_alloc; exact rfl; intro _ _) | (apply TL_buildSlice; exact rfl; exact rfl; exact rfl; exact rfl; exact rfl; intro _ _))
    rename_i b9 _
    apply TC_draw 9; kernel_rfl; exact Try.mixed
    · (refine' pv ?_; rotate_left)
      (refine' PG.rel ((fun v h => ∃ q : Tw, TwAt S q ∧ v = .agg (encSv S q.p).toArray ∧ h = q.hp)) rfl rfl (by intro _X; refine TL_callN rfl rfl rfl (fun w h => c15 S p (by omega) (by omega) (by omega) w (ha.mono h)) ?_; rintro q hq; exact TL_nil (TQ_QR (h := q.hp) rfl ⟨q, hq, rfl, rfl⟩ (fun _ h => h))) ?_; rotate_left)
      (refine' pv ?_; rotate_left)
      (refine' PG.rel ((fun v h => ∃ q : Tw, TwAt S q ∧ v = .agg (encSv S q.p).toArray ∧ h = q.hp)) rfl rfl (by intro _X; refine TL_callN rfl rfl rfl (fun w h => c15 S p (by omega) (by omega) (by omega) w (ha.mono h)) ?_; rintro q hq; exact TL_nil (TQ_QR (h := q.hp) rfl ⟨q, hq, rfl, rfl⟩ (fun _ h => h))) ?_; rotate_left)
      (refine' pv ?_; rotate_left)
      (refine' PG.rel ((fun v h => ∃ q : Tw, TwAt S q ∧ v = .agg (encSv S q.p).toArray ∧ h = q.hp)) rfl rfl (by intro _X; refine TL_callN rfl rfl rfl (fun w h => c15 S p (by omega) (by omega) (by omega) w (ha.mono h)) ?_; rintro q hq; exact TL_nil (TQ_QR (h := q.hp) rfl ⟨q, hq, rfl, rfl⟩ (fun _ h => h))) ?_; rotate_left)
      iterate 3 (refine' pn ?_; rotate_left)
      exact PG.nil
    rintro _ _ ⟨b13, _, rfl, rfl⟩ _ _ ⟨b12, _, rfl, rfl⟩ _ _ ⟨b11, _, rfl, rfl⟩ _ _ ⟨z3, hz3, rfl, rfl⟩ _ _ ⟨z2, hz2, rfl, rfl⟩ _ _ ⟨z1, hz1, rfl, rfl⟩
    change TL _ _ _ _ _ _ _ _ _ _ _
    refine TL_hp (H := (b13, .cells [.int .i64 0, .slice none 0 0, .slice none 0 0, .slice none 0 0] 26) :: (b12, .cells [.int .i64 0, .slice none 0 0, .slice none 0 0, .slice none 0 0] 26) :: (b11, .cells [.int .i64 0, .slice none 0 0, .slice none 0 0, .slice none 0 0] 26) :: ((z3.hp ++ (z2.hp ++ (z1.hp ++ []))) ++ ([(b9, .cells (encSp v) 36), (b3, .cells (encSv S p) 26)] : Hp))) (H' := (b13, .cells [.int .i64 0, .slice none 0 0, .slice none 0 0, .slice none 0 0] 26) :: (b12, .cells [.int .i64 0, .slice none 0 0, .slice none 0 0, .slice none 0 0] 26) :: (b11, .cells [.int .i64 0, .slice none 0 0, .slice none 0 0, .slice none 0 0] 26) :: (z3.o3 ++ (z3.o2 ++ (z3.o1 ++ (z2.o3 ++ (z2.o2 ++ (z2.o1 ++ (z1.o3 ++ (z1.o2 ++ (z1.o1 ++ (([(b9, .cells (encSp v) 36), (b3, .cells (encSv S p) 26)] : Hp)))))))))))) (List.Perm.of_eq (by simp only [Tw.hp, List.append_assoc, List.append_nil])) ?_
    repeat' (first | refine rn ?_ | (apply TL_box; exact rfl; exact rfl; exact rfl; intro _ _) | (apply TL_alloc; exact rfl; intro _ _) | (apply TL_buildSlice; exact rfl; exact rfl; exact rfl; exact rfl; exact rfl; intro _ _))
    refine TL_index k rfl rfl rfl (fun w h => h.sl ha.s3) rfl hlt (Nat.le_refl _) ?_
    refine TL_load_eln (u := x) rfl rfl (fun w h => h.sl ha.s3) hx rfl ?_
    repeat' (first | refine rn ?_ | (apply TL_box; exact rfl; exact rfl; exact rfl; intro _ _) | (apply TL_alloc; exact rfl; intro _ _) | (apply TL_buildSlice; exact rfl; exact rfl; exact rfl; exact rfl; exact rfl; intro _ _))
    rename_i b14 _
    apply TC_draw 17; kernel_rfl; exact Try.mixed
    · iterate 3 (refine' pv ?_; rotate_left)
      (refine' PG.val rfl rfl (by intro _X; refine TL_index k rfl rfl rfl (fun w h => hz2.r3.sl h (fun x hx => by simp only [List.mem_append, List.mem_cons, hx, true_or, or_true])) rfl hlt (Nat.le_refl _) ?_; exact qe) ?_; rotate_left)
      (refine' PG.val rfl rfl (by intro _X; refine TL_fieldAddr_el rfl rfl (fun w h => hz2.r3.sl h (fun x hx => by simp only [List.mem_append, List.mem_cons, hx, true_or, or_true])) hne ?_; exact qe) ?_; rotate_left)
      (refine' PG.val rfl rfl (by intro _X; refine TL_fieldAddr_el rfl rfl (fun w h => hz2.r3.sl h (fun x hx => by simp only [List.mem_append, List.mem_cons, hx, true_or, or_true])) hne ?_; exact qe) ?_; rotate_left)
      (refine' PG.val rfl rfl (by intro _X; refine TL_load_el1 (u := x) rfl rfl (fun w h => hz2.r3.sl h (fun x hx => by simp only [List.mem_append, List.mem_cons, hx, true_or, or_true])) hx rfl ?_; exact qe) ?_; rotate_left)
      iterate 8 (refine' pv ?_; rotate_left)
      (refine' PG.val rfl rfl (by intro _X; refine TL_callV rfl rfl rfl (fun w h => c38 (x.long.2 - x.long.1) l 0 (by omega) (by omega) lo lc h4 w (h.sl hb)) ?_; exact qe) ?_; rotate_left)
      (refine' pv ?_; rotate_left)
      exact PG.nil
    change TL _ _ _ _ _ _ _ _ _ _ _
    refine TL_index k rfl rfl rfl (fun w h => hz2.r3.sl h (fun x hx => by simp only [List.mem_append, List.mem_cons, hx, true_or, or_true])) rfl hlt (Nat.le_refl _) ?_
    refine TL_fieldAddr_el rfl rfl (fun w h => hz2.r3.sl h (fun x hx => by simp only [List.mem_append, List.mem_cons, hx, true_or, or_true])) hne ?_
    refine TL_fieldAddr_el rfl rfl (fun w h => hz2.r3.sl h (fun x hx => by simp only [List.mem_append, List.mem_cons, hx, true_or, or_true])) hne ?_
    refine TL_store_el (u := x) (u' := (⟨x.fr, x.to, (x.long.1 + partN (x.long.2 - x.long.1) l 0, x.long.2)⟩ : Th)) (f := fun z => (b14, .cells (encTh x) 72) :: (b13, .cells (encSv S z3.p) 26) :: (b12, .cells (encSv S z2.p) 26) :: (b11, .cells (encSv S z1.p) 26) :: (z3.o3 ++ (z3.o2 ++ (z3.o1 ++ (z ++ (z2.o2 ++ (z2.o1 ++ (z1.o3 ++ (z1.o2 ++ (z1.o1 ++ (([(b9, .cells (encSp v) 36), (b3, .cells (encSv S p) 26)] : Hp)))))))))))) (hz2.r3.row hne) rfl rfl rfl rfl rfl rfl hx rfl rfl (fun _ _ _ => up) (fun ob2 hr2 => ?_)
    repeat' (first | refine rn ?_ | (apply TL_box; exact rfl; exact rfl; exact rfl; intro _ _) | (apply TL_alloc; exact rfl; intro _ _) | (apply TL_buildSlice; exact rfl; exact rfl; exact rfl; exact rfl; exact rfl; intro _ _))
    refine TL_index k rfl rfl rfl (fun w h => hz3.r3.sl h (fun x hx => by simp only [List.mem_append, List.mem_cons, hx, true_or, or_true])) rfl hlt (Nat.le_refl _) ?_
    refine TL_store_el (u := x) (u' := (⟨x.to, x.fr, x.long⟩ : Th)) (f := fun z => (b14, .cells (encTh x) 72) :: (b13, .cells (encSv S z3.p) 26) :: (b12, .cells (encSv S z2.p) 26) :: (b11, .cells (encSv S z1.p) 26) :: (z ++ (z3.o2 ++ (z3.o1 ++ (ob2 ++ (z2.o2 ++ (z2.o1 ++ (z1.o3 ++ (z1.o2 ++ (z1.o1 ++ (([(b9, .cells (encSp v) 36), (b3, .cells (encSv S p) 26)] : Hp)))))))))))) (hz3.r3.row hne) rfl rfl rfl rfl rfl rfl hx rfl rfl (fun _ _ _ => up) (fun ob3 hr3 => ?_)
    repeat' (first | refine rn ?_ | (apply TL_box; exact rfl; exact rfl; exact rfl; intro _ _) | (apply TL_alloc; exact rfl; intro _ _) | (apply TL_buildSlice; exact rfl; exact rfl; exact rfl; exact rfl; exact rfl; intro _ _))
    refine TL_callV rfl rfl rfl (fun w h => f2 z2.p rfl rfl (by simp [setT]) w ⟨hz2.r1.sl h (fun x hx => by simp only [List.mem_append, List.mem_cons, hx, true_or, or_true]), hz2.r2.sl h (fun x hx => by simp only [List.mem_append, List.mem_cons, hx, true_or, or_true]), hr2.sl h (fun x hx => by simp only [List.mem_append, List.mem_cons, hx, true_or, or_true])⟩) ?_
    repeat' (first | refine rn ?_ | (apply TL_box; exact rfl; exact rfl; exact rfl; intro _ _) | (apply TL_alloc; exact rfl; intro _ _) | (apply TL_buildSlice; exact rfl; exact rfl; exact rfl; exact rfl; exact rfl; intro _ _))
    refine TL_callV rfl rfl rfl (fun w h => f3 z3.p rfl rfl (by simp [setT]) w ⟨hz3.r1.sl h (fun x hx => by simp only [List.mem_append, List.mem_cons, hx, true_or, or_true]), hz3.r2.sl h (fun x hx => by simp only [List.mem_append, List.mem_cons, hx, true_or, or_true]), hr3.sl h (fun x hx => by simp only [List.mem_append, List.mem_cons, hx, true_or, or_true])⟩) ?_
    repeat' (first | refine rn ?_ | (apply TL_box; exact rfl; exact rfl; exact rfl; intro _ _) | (apply TL_alloc; exact rfl; intro _ _) | (apply TL_buildSlice; exact rfl; exact rfl; exact rfl; exact rfl; exact rfl; intro _ _))
    apply TC_draw 31; kernel_rfl; exact Try.mixed
    · iterate 3 (refine' pv ?_; rotate_left)
      iterate 2 (refine' pg ?_; rotate_left)
      iterate 2 (refine' pv ?_; rotate_left)
      iterate 4 (refine' pg ?_; rotate_left)
      (refine' PG.val rfl rfl (by intro _X; (refine TL_guard_yes rfl rfl rfl ?_); refine TL_lss_f rfl rfl rfl (by omega) ?_; exact qe) ?_; rotate_left)
      iterate 2 (refine' pv ?_; rotate_left)
      iterate 4 (refine' pg ?_; rotate_left)
      (refine' PG.val rfl rfl (by intro _X; (refine TL_guard_yes rfl rfl rfl ?_); refine TL_gtr_f rfl rfl rfl (by omega) ?_; exact qe) ?_; rotate_left)
      iterate 2 (refine' pv ?_; rotate_left)
      iterate 7 (refine' pg ?_; rotate_left)
      (refine' PG.val rfl rfl (by intro _X; (refine TL_guard_yes rfl rfl rfl ?_); refine TL_callV rfl rfl rfl (fun w _ => c39 (-v.2) (-v.1) w) ?_; exact qe) ?_; rotate_left)
      (refine' PG.val rfl rfl (by intro _X; (refine TL_guard_yes rfl rfl rfl ?_); refine TL_neqS_same rfl rfl rfl rfl rfl rfl rfl ?_; exact qe) ?_; rotate_left)
      (refine' pv ?_; rotate_left)
      exact PG.nil
    change TL _ _ _ _ _ _ _ _ _ _ _
    repeat' (first | refine rn ?_ | (apply TL_box; exact rfl; exact rfl; exact rfl; intro _ _) | (apply TL_alloc; exact rfl; intro _ _) | (apply TL_buildSlice; exact rfl; exact rfl; exact rfl; exact rfl; exact rfl; intro _ _))
    refine TC_cond_dec rfl (fun g1 => ?_) (fun g1 => ?_)
    · repeat' (first | refine rn ?_ | (apply TL_box; exact rfl; exact rfl; exact rfl; intro _ _) | (apply TL_alloc; exact rfl; intro _ _) | (apply TL_buildSlice; exact rfl; exact rfl; exact rfl; exact rfl; exact rfl; intro _ _))
      exact TQ_ret1 Try.results13 (RV.tmp rfl) (fun w' hs => ⟨rfl, hs.below⟩)
    obtain ⟨c, e4, ⟨p1, p2, p3, p4⟩, b3', b4'⟩ := hlong (by omega)
    have f4 := c31' (setT S k ⟨x.fr, x.to, (2 * x.long.1, 2 * x.long.2)⟩)
    rw [e4] at f4
    simp only [encSv_setT] at f4
    repeat' (first | refine rn ?_ | (apply TL_box; exact rfl; exact rfl; exact rfl; intro _ _) | (apply TL_alloc; exact rfl; intro _ _) | (apply TL_buildSlice; exact rfl; exact rfl; exact rfl; exact rfl; exact rfl; intro _ _))
    rename_i b15 _ b17 _
    apply TC_draw 12; kernel_rfl; exact Try.mixed
    · iterate 11 (refine' pv ?_; rotate_left)
      (refine' PG.val rfl rfl (by intro _X; refine TL_callV rfl rfl rfl (fun w _ => c39 (2 * x.long.1) (2 * x.long.2) w) ?_; exact qe) ?_; rotate_left)
      exact PG.nil
    change TL _ _ _ _ _ _ _ _ _ _ _
    refine TL_index k rfl rfl rfl (fun w h => hz1.r3.sl h (fun x hx => by simp only [List.mem_append, List.mem_cons, hx, true_or, or_true])) rfl hlt (Nat.le_refl _) ?_
    refine TL_fieldAddr_el rfl rfl (fun w h => hz1.r3.sl h (fun x hx => by simp only [List.mem_append, List.mem_cons, hx, true_or, or_true])) hne ?_
    refine TL_store_el (u := x) (u' := (⟨x.fr, x.to, (2 * x.long.1, 2 * x.long.2)⟩ : Th)) (f := fun z => (b17, .cells (encSp (-v.2, -v.1)) 36) :: (b15, .cells (encSp a) 36) :: (b14, .cells (encTh x) 72) :: (b13, .cells (encSv S z3.p) 26) :: (b12, .cells (encSv S z2.p) 26) :: (b11, .cells (encSv S z1.p) 26) :: (ob3 ++ (z3.o2 ++ (z3.o1 ++ (ob2 ++ (z2.o2 ++ (z2.o1 ++ (z ++ (z1.o2 ++ (z1.o1 ++ (([(b9, .cells (encSp v) 36), (b3, .cells (encSv S p) 26)] : Hp)))))))))))) (hz1.r3.row hne) rfl rfl rfl rfl rfl rfl hx rfl rfl (fun _ _ _ => up) (fun ob1 hr1 => ?_)
    repeat' (first | refine rn ?_ | (apply TL_box; exact rfl; exact rfl; exact rfl; intro _ _) | (apply TL_alloc; exact rfl; intro _ _) | (apply TL_buildSlice; exact rfl; exact rfl; exact rfl; exact rfl; exact rfl; intro _ _))
    refine TL_callV rfl rfl rfl (fun w h => f4 z1.p rfl rfl (by simp [setT]) w ⟨hz1.r1.sl h (fun x hx => by simp only [List.mem_append, List.mem_cons, hx, true_or, or_true]), hz1.r2.sl h (fun x hx => by simp only [List.mem_append, List.mem_cons, hx, true_or, or_true]), hr1.sl h (fun x hx => by simp only [List.mem_append, List.mem_cons, hx, true_or, or_true])⟩) ?_
    repeat' (first | (refine TL_leq_t rfl rfl rfl (by first | omega | (dsimp only; omega)) ?_) | (refine TL_geq_t rfl rfl rfl (by first | omega | (dsimp only; omega)) ?_) | refine r1 ?_ | (apply TL_box; exact rfl; exact rfl; exact rfl; intro _ _) | (apply TL_alloc; exact rfl; intro _ _) | (apply TL_buildSlice; exact rfl; exact rfl; exact rfl; exact rfl; exact rfl; intro _ _))
    exact TQ_ret1 Try.results13 (RV.tmp rfl) (fun w' hs => ⟨rfl, hs.below⟩)
end Go.Proofs.Ytoolblbdmmiahaa
