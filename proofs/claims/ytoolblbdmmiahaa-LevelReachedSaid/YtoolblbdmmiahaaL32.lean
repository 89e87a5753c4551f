/- The walk of the statement LevelSums. -/
import Derived.Test.YtoolblbdmmiahaaL22
namespace Go.Proofs.Ytoolblbdmmiahaa
open Go Go.Eng Go.RowKit Go.Proofs
set_option maxHeartbeats 4000000
set_option maxRecDepth 10000
attribute [local irreducible] TL TC TQ

theorem fallF_ok {S : Sv} (hS : OkSv S) (ok : okS S = true) {a b : Int} (ha : In a 0 (S.pts - 1)) (hb : In b 0 (S.pts - 1)) : fallF S a b = (fallR (tbl S) a.toNat b.toNat, 0) := by
  unfold fallF; rw [if_neg (not_not_intro hS), if_neg (not_not_intro ⟨ha, hb⟩), if_pos ok]
theorem fallF_no {S : Sv} (hS : OkSv S) (ok : okS S = false) {a b : Int} (ha : In a 0 (S.pts - 1)) (hb : In b 0 (S.pts - 1)) : fallF S a b = ((0, 0), 11) := by
  unfold fallF; rw [if_neg (not_not_intro hS), if_neg (not_not_intro ⟨ha, hb⟩), if_neg (by rw [ok]; simp)]
theorem heightsF_ok {S : Sv} (hS : OkSv S) (ok : okS S = true) : heightsF S = ((List.range S.pts.toNat).map (fun i => fallR (tbl S) i S.pts.toNat), 0) := by
  unfold heightsF; rw [if_neg (not_not_intro hS), if_pos ok]
theorem heightsF_no {S : Sv} (hS : OkSv S) (ok : okS S = false) : heightsF S = ([], 11) := by
  unfold heightsF; rw [if_neg (not_not_intro hS), if_neg (by rw [ok]; simp)]
theorem heights_get (S : Sv) {i : Nat} (hi : i < S.pts.toNat) : ((List.range S.pts.toNat).map (fun i => fallR (tbl S) i S.pts.toNat))[i]? = some (fallR (tbl S) i S.pts.toNat) := by
  rw [List.getElem?_map, List.getElem?_range hi]; rfl
theorem sums_law {S : Sv} (hS : OkSv S) (ok : okS S = true) {i j k : Nat} (hi : i < S.pts.toNat) (hj : j < S.pts.toNat) (hk : k < S.pts.toNat) :
    ∃ x y z : Sp, ∃ u v : Sp, fallR (tbl S) i j = x ∧ fallR (tbl S) j k = y ∧ fallR (tbl S) i k = z ∧ fallR (tbl S) j i = (-x.2, -x.1) ∧
      ((List.range S.pts.toNat).map (fun i => fallR (tbl S) i S.pts.toNat))[i]? = some u ∧ ((List.range S.pts.toNat).map (fun i => fallR (tbl S) i S.pts.toNat))[j]? = some v ∧
      (x.1 + y.1 ≤ z.1 ∧ z.2 ≤ x.2 + y.2 ∧ u.1 - v.2 ≤ x.1 ∧ x.2 ≤ u.2 - v.1) ∧ (-100000000 ≤ x.1 ∧ x.1 ≤ 100000000) ∧ (-100000000 ≤ x.2 ∧ x.2 ≤ 100000000) ∧ (-100000000 ≤ y.1 ∧ y.1 ≤ 100000000) ∧ (-100000000 ≤ y.2 ∧ y.2 ≤ 100000000) ∧
      (-100000000 ≤ u.1 ∧ u.1 ≤ 100000000) ∧ (-100000000 ≤ u.2 ∧ u.2 ≤ 100000000) ∧ (-100000000 ≤ v.1 ∧ v.1 ≤ 100000000) ∧ (-100000000 ≤ v.2 ∧ v.2 ≤ 100000000) := by
  have c := clo0 hS ok
  have B := fun {a b : Nat} (ha : a < S.pts.toNat + 1) (hb : b < S.pts.toNat + 1) => tbl_B hS ok ha hb
  have hn : S.pts.toNat < S.pts.toNat + 1 := by omega
  have hi' : i < S.pts.toNat + 1 := by omega
  have hj' : j < S.pts.toNat + 1 := by omega
  have hk' : k < S.pts.toNat + 1 := by omega
  have t1 := c.tri i k j hi' hk' hj' hj'
  have t2 := c.tri k i j hk' hi' hj' hj'
  have t3 := c.tri i j S.pts.toNat hi' hj' hn hn
  have t4 := c.tri j i S.pts.toNat hj' hi' hn hn
  have b1 := B hi' hj'
  have b2 := B hj' hi'
  have b3 := B hj' hk'
  have b4 := B hk' hj'
  have b5 := B hi' hn
  have b6 := B hn hi'
  have b7 := B hj' hn
  have b8 := B hn hj'
  refine ⟨_, _, _, _, _, rfl, rfl, rfl, ?_, heights_get S hi, heights_get S hj, ?_, ?_⟩
  · simp only [fallR, Int.neg_neg]
  · simp only [fallR]; omega
  · simp only [fallR]; omega
theorem mod_rg {a n : Int} (ha : 0 ≤ a) (hn : 1 ≤ n) : 0 ≤ a % n ∧ a % n < n := ⟨Int.emod_nonneg _ (by omega), Int.emod_lt_of_pos _ (by omega)⟩
theorem c12 (S : Sv) (p : Pl) (a b c : Int) (ga : 0 ≤ a ∧ a ≤ 255) (gb : 0 ≤ b ∧ b ≤ 255) (gc : 0 ≤ c ∧ c ≤ 255) (h1 : S.shots.length ≤ 9223372036854775807) (h2 : S.marks.length ≤ 9223372036854775807) (h3 : S.thr.length ≤ 9223372036854775807) (w : World) (ha : SvAt w S p) :
    Calls Try.prog 12 #[.agg (encSv S p).toArray, .int .u8 a, .int .u8 b, .int .u8 c] w (RetV w (.bool true)) := by
  refine enter (args := [.agg (encSv S p).toArray, .int .u8 a, .int .u8 b, .int .u8 c]) Try.func12 rfl Try.ntmps12 rfl (SH.refl _) ?_
  repeat' (first | refine rn ?_ | (apply TL_box; exact rfl; exact rfl; exact rfl; intro _ _) | (apply TL_alloc; exact rfl; intro _ _) | (apply TL_buildSlice; exact rfl; exact rfl; exact rfl; exact rfl; exact rfl; intro _ _))
  refine TL_callV rfl rfl rfl (fun w _ => c35 w) ?_
  repeat' (first | refine rn ?_ | (apply TL_box; exact rfl; exact rfl; exact rfl; intro _ _) | (apply TL_alloc; exact rfl; intro _ _) | (apply TL_buildSlice; exact rfl; exact rfl; exact rfl; exact rfl; exact rfl; intro _ _))
  refine TL_callV rfl rfl rfl (fun w h => c36 S p h1 h2 h3 w (ha.mono h)) ?_
  by_cases hS : OkSv S
  rotate_left
  · rw [decide_eq_false hS]
    repeat' (first | refine rn ?_ | (apply TL_box; exact rfl; exact rfl; exact rfl; intro _ _) | (apply TL_alloc; exact rfl; intro _ _) | (apply TL_buildSlice; exact rfl; exact rfl; exact rfl; exact rfl; exact rfl; intro _ _))
    exact TQ_ret1 Try.results12 (RV.tmp rfl) (fun w' hs => ⟨rfl, hs.below⟩)
  rw [decide_eq_true hS]
  have hp := hS.1
  simp only [In] at hp
  have hl1 := hS.2.1
  have hl2 := hS.2.2.1
  have hl3 := hS.2.2.2.1
  repeat' (first | refine rn ?_ | (apply TL_box; exact rfl; exact rfl; exact rfl; intro _ _) | (apply TL_alloc; exact rfl; intro _ _) | (apply TL_buildSlice; exact rfl; exact rfl; exact rfl; exact rfl; exact rfl; intro _ _))
  apply TC_draw 18; kernel_rfl; exact Try.mixed
  · (refine' pv ?_; rotate_left)
    (refine' PG.val rfl rfl (by intro _X; refine TL_conv_same rfl rfl (wrap_i64_in ga.1 (by omega)) ?_; exact qe) ?_; rotate_left)
    iterate 4 (refine' pv ?_; rotate_left)
    (refine' PG.val rfl rfl (by intro _X; refine TL_conv_same rfl rfl (wrap_i64_in gb.1 (by omega)) ?_; exact qe) ?_; rotate_left)
    iterate 4 (refine' pv ?_; rotate_left)
    (refine' PG.val rfl rfl (by intro _X; refine TL_conv_same rfl rfl (wrap_i64_in gc.1 (by omega)) ?_; exact qe) ?_; rotate_left)
    iterate 6 (refine' pv ?_; rotate_left)
    exact PG.nil
  change TL _ _ _ _ _ _ _ _ _ _ _
  have gi := mod_rg (n := S.pts) ga.1 hp.1
  have gj := mod_rg (n := S.pts) gb.1 hp.1
  have gk := mod_rg (n := S.pts) gc.1 hp.1
  generalize a % S.pts = i at *
  generalize b % S.pts = j at *
  generalize c % S.pts = k at *
  have ii : In i 0 (S.pts - 1) := by simp only [In]; omega
  have ij : In j 0 (S.pts - 1) := by simp only [In]; omega
  have ik : In k 0 (S.pts - 1) := by simp only [In]; omega
  change TL _ _ _ _ _ _ _ _ _ _ _
  cases ok : okS S with
  | false =>
    have c18' := fun x y w h => c18 S p x y (by omega) (by omega) (by omega) w h
    have f1 := c18' i j
    have f2 := c18' j k
    have f3 := c18' i k
    have f4 := c18' j i
    rw [fallF_no hS ok ii ij] at f1
    rw [fallF_no hS ok ij ik] at f2
    rw [fallF_no hS ok ii ik] at f3
    rw [fallF_no hS ok ij ii] at f4
    have c16' := fun w h => c16 S p (by omega) (by omega) (by omega) w h
    rw [heightsF_no hS ok] at c16'
    repeat' (first | refine rn ?_ | (apply TL_box; exact rfl; exact rfl; exact rfl; intro _ _) | (apply TL_alloc; exact rfl; intro _ _) | (apply TL_buildSlice; exact rfl; exact rfl; exact rfl; exact rfl; exact rfl; intro _ _))
    refine TL_callV rfl rfl rfl (fun w h => f1 w (ha.mono h)) ?_
    repeat' (first | refine rn ?_ | (apply TL_box; exact rfl; exact rfl; exact rfl; intro _ _) | (apply TL_alloc; exact rfl; intro _ _) | (apply TL_buildSlice; exact rfl; exact rfl; exact rfl; exact rfl; exact rfl; intro _ _))
    refine TL_callV rfl rfl rfl (fun w h => f2 w (ha.mono h)) ?_
    repeat' (first | refine rn ?_ | (apply TL_box; exact rfl; exact rfl; exact rfl; intro _ _) | (apply TL_alloc; exact rfl; intro _ _) | (apply TL_buildSlice; exact rfl; exact rfl; exact rfl; exact rfl; exact rfl; intro _ _))
    refine TL_callV rfl rfl rfl (fun w h => f3 w (ha.mono h)) ?_
    repeat' (first | refine rn ?_ | (apply TL_box; exact rfl; exact rfl; exact rfl; intro _ _) | (apply TL_alloc; exact rfl; intro _ _) | (apply TL_buildSlice; exact rfl; exact rfl; exact rfl; exact rfl; exact rfl; intro _ _))
    refine TL_callV rfl rfl rfl (fun w h => f4 w (ha.mono h)) ?_
    repeat' (first | refine rn ?_ | (apply TL_box; exact rfl; exact rfl; exact rfl; intro _ _) | (apply TL_alloc; exact rfl; intro _ _) | (apply TL_buildSlice; exact rfl; exact rfl; exact rfl; exact rfl; exact rfl; intro _ _))
    refine TL_callN rfl rfl rfl (fun w h => c16' w (ha.mono h)) ?_
    rintro ⟨so1, sc1, ob1⟩ hrow1
    change TL _ _ _ _ _ _ _ _ _ _ _
    dsimp only
    repeat' (first | (refine TL_eql_same rfl rfl rfl ?_) | refine r1 ?_ | (apply TL_box; exact rfl; exact rfl; exact rfl; intro _ _) | (apply TL_alloc; exact rfl; intro _ _) | (apply TL_buildSlice; exact rfl; exact rfl; exact rfl; exact rfl; exact rfl; intro _ _))
    exact TQ_ret1 Try.results12 (RV.tmp rfl) (fun w' hs => ⟨rfl, hs.below⟩)
  | true =>
    have c18' := fun x y w h => c18 S p x y (by omega) (by omega) (by omega) w h
    have f1 := c18' i j
    have f2 := c18' j k
    have f3 := c18' i k
    have f4 := c18' j i
    obtain ⟨x, y, z, u, v, e1, e2, e3, e4, hu, hv, ⟨q1, q2, q3, q4⟩, b1, b2, b3, b4, b5, b6, b7, b8⟩ := sums_law hS ok (i := i.toNat) (j := j.toNat) (k := k.toNat) (by omega) (by omega) (by omega)
    rw [fallF_ok hS ok ii ij, e1] at f1
    rw [fallF_ok hS ok ij ik, e2] at f2
    rw [fallF_ok hS ok ii ik, e3] at f3
    rw [fallF_ok hS ok ij ii, e4] at f4
    have c16' := fun w h => c16 S p (by omega) (by omega) (by omega) w h
    rw [heightsF_ok hS ok] at c16'
    have hln : ((List.range S.pts.toNat).map (fun i => fallR (tbl S) i S.pts.toNat)).length = S.pts.toNat := by simp
    have hne : (List.range S.pts.toNat).map (fun i => fallR (tbl S) i S.pts.toNat) ≠ [] := fun h => by rw [h] at hu; simp at hu
    generalize (List.range S.pts.toNat).map (fun i => fallR (tbl S) i S.pts.toNat) = l at *
    repeat' (first | refine rn ?_ | (apply TL_box; exact rfl; exact rfl; exact rfl; intro _ _) | (apply TL_alloc; exact rfl; intro _ _) | (apply TL_buildSlice; exact rfl; exact rfl; exact rfl; exact rfl; exact rfl; intro _ _))
    refine TL_callV rfl rfl rfl (fun w h => f1 w (ha.mono h)) ?_
    repeat' (first | refine rn ?_ | (apply TL_box; exact rfl; exact rfl; exact rfl; intro _ _) | (apply TL_alloc; exact rfl; intro _ _) | (apply TL_buildSlice; exact rfl; exact rfl; exact rfl; exact rfl; exact rfl; intro _ _))
    refine TL_callV rfl rfl rfl (fun w h => f2 w (ha.mono h)) ?_
    repeat' (first | refine rn ?_ | (apply TL_box; exact rfl; exact rfl; exact rfl; intro _ _) | (apply TL_alloc; exact rfl; intro _ _) | (apply TL_buildSlice; exact rfl; exact rfl; exact rfl; exact rfl; exact rfl; intro _ _))
    refine TL_callV rfl rfl rfl (fun w h => f3 w (ha.mono h)) ?_
    repeat' (first | refine rn ?_ | (apply TL_box; exact rfl; exact rfl; exact rfl; intro _ _) | (apply TL_alloc; exact rfl; intro _ _) | (apply TL_buildSlice; exact rfl; exact rfl; exact rfl; exact rfl; exact rfl; intro _ _))
    refine TL_callV rfl rfl rfl (fun w h => f4 w (ha.mono h)) ?_
    repeat' (first | refine rn ?_ | (apply TL_box; exact rfl; exact rfl; exact rfl; intro _ _) | (apply TL_alloc; exact rfl; intro _ _) | (apply TL_buildSlice; exact rfl; exact rfl; exact rfl; exact rfl; exact rfl; intro _ _))
    refine TL_callN rfl rfl rfl (fun w h => c16' w (ha.mono h)) ?_
    rintro ⟨so1, sc1, ob1⟩ hrow1
    replace hrow1 : Row 36 2 encSp so1 sc1 ob1 l := hrow1
    change TL _ _ _ _ _ _ _ _ _ _ _
    dsimp only
    repeat' (first | (refine TL_neq_f rfl rfl rfl (by first | omega | (dsimp only; omega)) ?_) | refine r1 ?_ | (apply TL_box; exact rfl; exact rfl; exact rfl; intro _ _) | (apply TL_alloc; exact rfl; intro _ _) | (apply TL_buildSlice; exact rfl; exact rfl; exact rfl; exact rfl; exact rfl; intro _ _))
    apply TC_draw 64; kernel_rfl; exact Try.mixed
    · iterate 2 (refine' pv ?_; rotate_left)
      iterate 7 (refine' pg ?_; rotate_left)
      (refine' PG.val rfl rfl (by intro _X; (refine TL_guard_yes rfl rfl rfl ?_); refine TL_callV rfl rfl rfl (fun w _ => c39 (-x.2) (-x.1) w) ?_; exact qe) ?_; rotate_left)
      (refine' PG.val rfl rfl (by intro _X; (refine TL_guard_yes rfl rfl rfl ?_); refine TL_eqlS_same rfl rfl rfl rfl rfl rfl rfl ?_; exact qe) ?_; rotate_left)
      iterate 2 (refine' pv ?_; rotate_left)
      iterate 7 (refine' pg ?_; rotate_left)
      (refine' PG.val rfl rfl (by intro _X; (refine TL_guard_yes rfl rfl rfl ?_); refine TL_geq_t rfl rfl rfl (by omega) ?_; exact qe) ?_; rotate_left)
      iterate 2 (refine' pv ?_; rotate_left)
      iterate 7 (refine' pg ?_; rotate_left)
      (refine' PG.val rfl rfl (by intro _X; (refine TL_guard_yes rfl rfl rfl ?_); refine TL_leq_t rfl rfl rfl (by omega) ?_; exact qe) ?_; rotate_left)
      iterate 2 (refine' pv ?_; rotate_left)
      iterate 4 (refine' pg ?_; rotate_left)
      (refine' PG.val rfl rfl (by intro _X; (refine TL_guard_yes rfl rfl rfl ?_); refine TL_index i.toNat rfl rfl rfl (fun w h => hrow1.sl h (fun x hx => by repeat (first | exact List.mem_append_left _ hx | apply List.mem_append_right | apply List.mem_cons_of_mem))) (by omega) (by omega) (Nat.le_of_eq rfl) ?_; exact qe) ?_; rotate_left)
      (refine' PG.val rfl rfl (by intro _X; (refine TL_guard_yes rfl rfl rfl ?_); refine TL_fieldAddr_el rfl rfl (fun w h => hrow1.sl h (fun x hx => by repeat (first | exact List.mem_append_left _ hx | apply List.mem_append_right | apply List.mem_cons_of_mem))) hne ?_; exact qe) ?_; rotate_left)
      (refine' PG.val rfl rfl (by intro _X; (refine TL_guard_yes rfl rfl rfl ?_); refine TL_load_el1 (u := u) rfl rfl (fun w h => hrow1.sl h (fun x hx => by repeat (first | exact List.mem_append_left _ hx | apply List.mem_append_right | apply List.mem_cons_of_mem))) hu rfl ?_; exact qe) ?_; rotate_left)
      iterate 2 (refine' pg ?_; rotate_left)
      (refine' PG.val rfl rfl (by intro _X; (refine TL_guard_yes rfl rfl rfl ?_); refine TL_index j.toNat rfl rfl rfl (fun w h => hrow1.sl h (fun x hx => by repeat (first | exact List.mem_append_left _ hx | apply List.mem_append_right | apply List.mem_cons_of_mem))) (by omega) (by omega) (Nat.le_of_eq rfl) ?_; exact qe) ?_; rotate_left)
      (refine' PG.val rfl rfl (by intro _X; (refine TL_guard_yes rfl rfl rfl ?_); refine TL_fieldAddr_el rfl rfl (fun w h => hrow1.sl h (fun x hx => by repeat (first | exact List.mem_append_left _ hx | apply List.mem_append_right | apply List.mem_cons_of_mem))) hne ?_; exact qe) ?_; rotate_left)
      (refine' PG.val rfl rfl (by intro _X; (refine TL_guard_yes rfl rfl rfl ?_); refine TL_load_el1 (u := v) rfl rfl (fun w h => hrow1.sl h (fun x hx => by repeat (first | exact List.mem_append_left _ hx | apply List.mem_append_right | apply List.mem_cons_of_mem))) hv rfl ?_; exact qe) ?_; rotate_left)
      (refine' pg ?_; rotate_left)
      (refine' PG.val rfl rfl (by intro _X; (refine TL_guard_yes rfl rfl rfl ?_); refine TL_geq_t rfl rfl rfl (by omega) ?_; exact qe) ?_; rotate_left)
      iterate 2 (refine' pv ?_; rotate_left)
      iterate 4 (refine' pg ?_; rotate_left)
      (refine' PG.val rfl rfl (by intro _X; (refine TL_guard_yes rfl rfl rfl ?_); refine TL_index i.toNat rfl rfl rfl (fun w h => hrow1.sl h (fun x hx => by repeat (first | exact List.mem_append_left _ hx | apply List.mem_append_right | apply List.mem_cons_of_mem))) (by omega) (by omega) (Nat.le_of_eq rfl) ?_; exact qe) ?_; rotate_left)
      (refine' PG.val rfl rfl (by intro _X; (refine TL_guard_yes rfl rfl rfl ?_); refine TL_fieldAddr_el rfl rfl (fun w h => hrow1.sl h (fun x hx => by repeat (first | exact List.mem_append_left _ hx | apply List.mem_append_right | apply List.mem_cons_of_mem))) hne ?_; exact qe) ?_; rotate_left)
      (refine' PG.val rfl rfl (by intro _X; (refine TL_guard_yes rfl rfl rfl ?_); refine TL_load_el1 (u := u) rfl rfl (fun w h => hrow1.sl h (fun x hx => by repeat (first | exact List.mem_append_left _ hx | apply List.mem_append_right | apply List.mem_cons_of_mem))) hu rfl ?_; exact qe) ?_; rotate_left)
      iterate 2 (refine' pg ?_; rotate_left)
      (refine' PG.val rfl rfl (by intro _X; (refine TL_guard_yes rfl rfl rfl ?_); refine TL_index j.toNat rfl rfl rfl (fun w h => hrow1.sl h (fun x hx => by repeat (first | exact List.mem_append_left _ hx | apply List.mem_append_right | apply List.mem_cons_of_mem))) (by omega) (by omega) (Nat.le_of_eq rfl) ?_; exact qe) ?_; rotate_left)
      (refine' PG.val rfl rfl (by intro _X; (refine TL_guard_yes rfl rfl rfl ?_); refine TL_fieldAddr_el rfl rfl (fun w h => hrow1.sl h (fun x hx => by repeat (first | exact List.mem_append_left _ hx | apply List.mem_append_right | apply List.mem_cons_of_mem))) hne ?_; exact qe) ?_; rotate_left)
      (refine' PG.val rfl rfl (by intro _X; (refine TL_guard_yes rfl rfl rfl ?_); refine TL_load_el1 (u := v) rfl rfl (fun w h => hrow1.sl h (fun x hx => by repeat (first | exact List.mem_append_left _ hx | apply List.mem_append_right | apply List.mem_cons_of_mem))) hv rfl ?_; exact qe) ?_; rotate_left)
      (refine' pg ?_; rotate_left)
      (refine' PG.val rfl rfl (by intro _X; (refine TL_guard_yes rfl rfl rfl ?_); refine TL_leq_t rfl rfl rfl (by omega) ?_; exact qe) ?_; rotate_left)
      (refine' pv ?_; rotate_left)
      exact PG.nil
    change TL _ _ _ _ _ _ _ _ _ _ _
    repeat' (first | refine rn ?_ | (apply TL_box; exact rfl; exact rfl; exact rfl; intro _ _) | (apply TL_alloc; exact rfl; intro _ _) | (apply TL_buildSlice; exact rfl; exact rfl; exact rfl; exact rfl; exact rfl; intro _ _))
    exact TQ_ret1 Try.results12 (RV.tmp rfl) (fun w' hs => ⟨rfl, hs.below⟩)
end Go.Proofs.Ytoolblbdmmiahaa
