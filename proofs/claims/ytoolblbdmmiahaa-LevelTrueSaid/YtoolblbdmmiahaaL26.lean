/- The walk of the statement LevelTrue. -/
import Derived.Test.YtoolblbdmmiahaaL23
import Derived.Test.YtoolblbdmmiahaaL33
namespace Go.Proofs.Ytoolblbdmmiahaa
open Go Go.Eng Go.RowKit Go.Proofs
set_option maxHeartbeats 4000000
set_option maxRecDepth 10000
attribute [local irreducible] TL TC TQ

/-- The first k numbers. -/
def cnt (k : Nat) : List Int := (List.range k).map (fun i : Nat => (i : Int))
theorem cnt_len (k : Nat) : (cnt k).length = k := by simp [cnt]
theorem cnt_succ (k : Nat) : cnt (k + 1) = cnt k ++ [(k : Int)] := by simp [cnt, List.range_succ]
theorem cnt_get {k i : Nat} (h : i < k) : (cnt k)[i]? = some (i : Int) := by simp [cnt, h]
theorem runs_true {S : Sv} (hS : OkSv S) (ok : okS S = true) : runsF S (cnt S.pts.toNat) = (runsL (tbl S) (cnt S.pts.toNat), 0) := by
  have hp := hS.1
  simp only [In] at hp
  unfold runsF
  rw [if_neg (not_not_intro hS), if_neg (by rw [cnt_len]; omega), if_neg (not_not_intro (fun x hx => ?_)), if_pos ok]
  obtain ⟨i, hi, rfl⟩ := List.mem_map.1 hx
  rw [List.mem_range] at hi
  simp only [In]; omega
theorem runs_at {T : Tb} {n i : Nat} (h : i + 1 < n) : (runsL T (cnt n))[i]? = some (runR T (i : Int) ((i + 1 : Nat) : Int)) := by
  unfold runsL
  rw [List.getElem?_map, cnt_len, List.getElem?_range (by omega)]
  simp only [Option.map_some, List.getD_eq_getElem?_getD]
  rw [cnt_get (by omega), cnt_get h]; rfl
theorem runsL_cl {T : Tb} {n : Nat} : (runsL T (cnt n)).length = n - 1 := by simp [runsL, cnt_len]
theorem hts_lt (S : Sv) (l : List Int) {i : Nat} (hi : i < S.pts.toNat) : hts S l i = trueH l (i : Int) := by unfold hts; rw [if_pos hi]
/-- What is told of a true survey is true. -/
structure TrueL (S : Sv) (l : List Int) : Prop where
  okT : OkSv (truthS S l)
  fit : okS (truthS S l) = true
  le : ∀ i k, i < S.pts.toNat + 1 → k < S.pts.toNat + 1 → hts S l k - hts S l i ≤ tbl (truthS S l) i k
  B : ∀ i k, i < S.pts.toNat + 1 → k < S.pts.toNat + 1 → -20000000 ≤ tbl (truthS S l) i k ∧ tbl (truthS S l) i k ≤ 20000000
theorem trueL {S : Sv} (hS : OkSv S) (l : List Int) : TrueL S l := by
  obtain ⟨hT, hF⟩ := truth_ok hS l
  have ok : okS (truthS S l) = true := (ok_iff hT).2 ⟨_, hF⟩
  exact ⟨hT, ok, fun i k hi hk => (told0 hT ok hi hk).1 _ hF, fun i k hi hk => tbl_B hT ok hi hk⟩
theorem true_height {S : Sv} {l : List Int} (h : TrueL S l) {i : Nat} (hi : i < S.pts.toNat) : (fallR (tbl (truthS S l)) i S.pts.toNat).1 ≤ trueH l (i : Int) ∧ trueH l (i : Int) ≤ (fallR (tbl (truthS S l)) i S.pts.toNat).2 := by
  have h1 := h.le i S.pts.toNat (by omega) (by omega)
  have h2 := h.le S.pts.toNat i (by omega) (by omega)
  rw [hts_lt S l hi, hts_zero] at h1 h2
  simp only [fallR]; omega
theorem true_fall {S : Sv} {l : List Int} (h : TrueL S l) {i k : Int} (hi : In i 0 (S.pts - 1)) (hk : In k 0 (S.pts - 1)) : (fallR (tbl (truthS S l)) i.toNat k.toNat).1 ≤ trueH l i - trueH l k ∧ trueH l i - trueH l k ≤ (fallR (tbl (truthS S l)) i.toNat k.toNat).2 := by
  have hi' := hi
  have hk' := hk
  simp only [In] at hi' hk'
  have h1 := h.le i.toNat k.toNat (by omega) (by omega)
  have h2 := h.le k.toNat i.toNat (by omega) (by omega)
  rw [hts_at hi, hts_at hk] at h1 h2
  simp only [fallR]; omega
theorem true_run {S : Sv} {l : List Int} (h : TrueL S l) {i : Nat} (hi : i + 1 < S.pts.toNat) : (runR (tbl (truthS S l)) (i : Int) ((i + 1 : Nat) : Int) = 2 ∧ trueH l ((i + 1 : Nat) : Int) < trueH l (i : Int)) ∨ (runR (tbl (truthS S l)) (i : Int) ((i + 1 : Nat) : Int) = 0 ∧ trueH l (i : Int) ≤ trueH l ((i + 1 : Nat) : Int)) ∨ runR (tbl (truthS S l)) (i : Int) ((i + 1 : Nat) : Int) = 1 := by
  have := true_fall h (i := (i : Int)) (k := ((i + 1 : Nat) : Int)) (by simp only [In]; omega) (by simp only [In]; omega)
  unfold runR
  split
  · exact .inl ⟨rfl, by omega⟩
  · split
    · exact .inr (.inl ⟨rfl, by omega⟩)
    · exact .inr (.inr rfl)
theorem true_slope {S : Sv} (hS : OkSv S) {l : List Int} (h : TrueL S l) {k : Nat} {x : Th} (hx : S.thr[k]? = some x) {long : Int} (hl : x.long.1 ≤ long ∧ long ≤ x.long.2) :
    ∃ v : Sp, slopeF (truthS S l) (k : Int) = (v, 0) ∧ (v.1 * long ≤ 1000 * (trueH l x.fr - trueH l x.to) ∧ 1000 * (trueH l x.fr - trueH l x.to) ≤ v.2 * long) ∧ (-2000000000000000000 ≤ v.1 * long ∧ v.1 * long ≤ 2000000000000000000) ∧ (-2000000000000000000 ≤ v.2 * long ∧ v.2 * long ≤ 2000000000000000000) := by
  obtain ⟨⟨i1, i2, _⟩, ho⟩ := hS.2.2.2.2.2.2 x (List.mem_of_getElem? hx)
  simp only [Ord] at ho
  have hx' : (truthS S l).thr[k]? = some x := hx
  have j1 := i1
  have j2 := i2
  simp only [In] at j1 j2
  have b1 := h.B x.fr.toNat x.to.toNat (by omega) (by omega)
  have b2 := h.B x.to.toNat x.fr.toNat (by omega) (by omega)
  have hin := slope_in (true_fall h i1 i2) hl (by omega)
  have hB := slope_B (f := fallR (tbl (truthS S l)) x.fr.toNat x.to.toNat) (long := x.long) (by omega) (by omega) (by simp only [fallR]; omega) (by simp only [fallR]; omega)
  refine ⟨_, slopeF_at h.okT h.fit hx', hin, ?_, ?_⟩
  · have m1 : -20000000000 * long ≤ (slopeR (fallR (tbl (truthS S l)) x.fr.toNat x.to.toNat) x.long).1 * long := Int.mul_le_mul_of_nonneg_right hB.1.1 (by omega)
    have m2 : (slopeR (fallR (tbl (truthS S l)) x.fr.toNat x.to.toNat) x.long).1 * long ≤ 20000000000 * long := Int.mul_le_mul_of_nonneg_right hB.1.2 (by omega)
    omega
  · have m1 : -20000000000 * long ≤ (slopeR (fallR (tbl (truthS S l)) x.fr.toNat x.to.toNat) x.long).2 * long := Int.mul_le_mul_of_nonneg_right hB.2.1 (by omega)
    have m2 : (slopeR (fallR (tbl (truthS S l)) x.fr.toNat x.to.toNat) x.long).2 * long ≤ 20000000000 * long := Int.mul_le_mul_of_nonneg_right hB.2.2 (by omega)
    omega
theorem c6 (S : Sv) (p : Pl) (l : List Int) (lo : Option Addr) (lc : Nat) (h1 : S.shots.length ≤ 9223372036854775807) (h2 : S.marks.length ≤ 9223372036854775807) (h3 : S.thr.length ≤ 9223372036854775807) (h4 : l.length ≤ 9223372036854775807) (w : World) (ha : SvAt w S p) (hb : Sl w 1 encI lo l) :
    Calls Try.prog 6 #[.agg (encSv S p).toArray, .slice lo l.length lc] w (RetV w (.bool true)) := by
  refine enter (args := [.agg (encSv S p).toArray, .slice lo l.length lc]) Try.func6 rfl Try.ntmps6 rfl (SH.refl _) ?_
  repeat' (first | refine rn ?_ | (apply TL_box; exact rfl; exact rfl; exact rfl; intro _ _) | (apply TL_alloc; exact rfl; intro _ _) | (apply TL_buildSlice; exact rfl; exact rfl; exact rfl; exact rfl; exact rfl; intro _ _))
  rename_i b2 _
  refine TL_callV rfl rfl rfl (fun w _ => c35 w) ?_
  repeat' (first | refine rn ?_ | (apply TL_box; exact rfl; exact rfl; exact rfl; intro _ _) | (apply TL_alloc; exact rfl; intro _ _) | (apply TL_buildSlice; exact rfl; exact rfl; exact rfl; exact rfl; exact rfl; intro _ _))
  refine TL_callV rfl rfl rfl (fun w h => c36 S p h1 h2 h3 w (ha.mono h)) ?_
  by_cases hS : OkSv S
  rotate_left
  · rw [decide_eq_false hS]
    repeat' (first | refine rn ?_ | (apply TL_box; exact rfl; exact rfl; exact rfl; intro _ _) | (apply TL_alloc; exact rfl; intro _ _) | (apply TL_buildSlice; exact rfl; exact rfl; exact rfl; exact rfl; exact rfl; intro _ _))
    exact TQ_ret1 Try.results6 (RV.tmp rfl) (fun w' hs => ⟨rfl, hs.below⟩)
  rw [decide_eq_true hS]
  have hp := hS.1
  simp only [In] at hp
  have hl1 := hS.2.1
  have hl2 := hS.2.2.1
  have hl3 := hS.2.2.2.1
  have hT := trueL hS l
  have n1 : (truthS S l).shots.length ≤ 1000000 := by have := hT.okT.2.1; omega
  have n2 : (truthS S l).marks.length ≤ 1000000 := by have := hT.okT.2.2.1; omega
  have n3 : (truthS S l).thr.length ≤ 1000000 := by have := hT.okT.2.2.2.1; omega
  have c37' := fun w h1 h2 => c37 S hS p l lo lc h4 w h1 h2
  simp only [encSv_truth] at c37'
  have hHl := hL_len l S.pts.toNat
  repeat' (first | refine rn ?_ | (apply TL_box; exact rfl; exact rfl; exact rfl; intro _ _) | (apply TL_alloc; exact rfl; intro _ _) | (apply TL_buildSlice; exact rfl; exact rfl; exact rfl; exact rfl; exact rfl; intro _ _))
  refine TL_callN rfl rfl rfl (fun w h => c37' w (ha.mono h) (h.sl hb)) ?_
  rintro ⟨⟨so, sc, obh⟩, z⟩ ⟨hrow, hz⟩
  replace hrow : Row 3 1 encI so sc obh (hL l S.pts.toNat) := hrow
  change TL _ _ _ _ _ _ _ _ _ _ _
  dsimp only
  repeat' (first | refine rn ?_ | (apply TL_box; exact rfl; exact rfl; exact rfl; intro _ _) | (apply TL_alloc; exact rfl; intro _ _) | (apply TL_buildSlice; exact rfl; exact rfl; exact rfl; exact rfl; exact rfl; intro _ _))
  refine TL_hp (H := (obh ++ z.hp) ++ ([(b2, .cells (encSv S z.p) 26)] : Hp)) (H' := (obh ++ (z.o3 ++ (z.o2 ++ (z.o1 ++ ([(b2, .cells (encSv S z.p) 26)] : Hp)))))) (List.Perm.of_eq (by simp only [Tw.hp, List.append_assoc])) ?_
  have hzS : ∀ {w0 w : World} {B : Nat} {K : Hp}, SH B w0 w K → (∀ x ∈ z.o1, x ∈ K) → (∀ x ∈ z.o2, x ∈ K) → (∀ x ∈ z.o3, x ∈ K) → SvAt w (truthS S l) z.p := fun h m1 m2 m3 => ⟨hz.r1.sl h m1, hz.r2.sl h m2, hz.r3.sl h m3⟩
  have c16' := fun w h => c16 (truthS S l) z.p n1 n2 n3 w h
  rw [encSv_truth, heightsF_ok hT.okT hT.fit] at c16'
  have hln : ((List.range S.pts.toNat).map (fun i => fallR (tbl (truthS S l)) i S.pts.toNat)).length = S.pts.toNat := by simp
  refine TL_callN rfl rfl rfl (fun w h => c16' w (hzS h (fun x hx => by simp only [List.mem_append, List.mem_cons, hx, true_or, or_true]) (fun x hx => by simp only [List.mem_append, List.mem_cons, hx, true_or, or_true]) (fun x hx => by simp only [List.mem_append, List.mem_cons, hx, true_or, or_true]))) ?_
  rintro ⟨so1, sc1, ob1⟩ hrow1
  replace hrow1 : Row 36 2 encSp so1 sc1 ob1 ((List.range S.pts.toNat).map (fun i => fallR (tbl (truthS S l)) i S.pts.toNat)) := hrow1
  change TL _ _ _ _ _ _ _ _ _ _ _
  replace hln : ((List.range (truthS S l).pts.toNat).map (fun i => fallR (tbl (truthS S l)) i (truthS S l).pts.toNat)).length = S.pts.toNat := hln
  dsimp only
  repeat' (first | (refine TL_neq_f rfl rfl rfl (by first | omega | (dsimp only; omega)) ?_) | refine r1 ?_ | (apply TL_box; exact rfl; exact rfl; exact rfl; intro _ _) | (apply TL_alloc; exact rfl; intro _ _) | (apply TL_buildSlice; exact rfl; exact rfl; exact rfl; exact rfl; exact rfl; intro _ _))
  refine TC_loop (σ := Nat) (fun k => k ≤ S.pts.toNat) (fun k => [(1, .slice lo l.length lc), (2, .pointer (some ⟨b2, 0, none⟩)), (5, .bool true), (6, .slice so (hL l S.pts.toNat).length sc), (57, .slice so1 ((List.range S.pts.toNat).map (fun i => fallR (tbl (truthS S l)) i S.pts.toNat)).length sc1), (58, .int .i64 ((List.range S.pts.toNat).map (fun i => fallR (tbl (truthS S l)) i S.pts.toNat)).length), (59, .int .i64 (k : Int))]) (fun _ => ob1 ++ (obh ++ (z.o3 ++ (z.o2 ++ (z.o1 ++ ([(b2, .cells (encSv S z.p) 26)] : Hp)))))) (fun k => S.pts.toNat - k) 0 (Nat.zero_le _) sb (fun w h => h) (fun k hk => ?_)
  replace hln : ((List.range S.pts.toNat).map (fun i => fallR (tbl (truthS S l)) i S.pts.toNat)).length = S.pts.toNat := hln
  repeat' (first | refine rn ?_ | (apply TL_box; exact rfl; exact rfl; exact rfl; intro _ _) | (apply TL_alloc; exact rfl; intro _ _) | (apply TL_buildSlice; exact rfl; exact rfl; exact rfl; exact rfl; exact rfl; intro _ _))
  refine TC_cond_dec rfl (fun g1 => ?_) (fun g1 => ?_)
  · have hlt : k < S.pts.toNat := by omega
    have hx := heights_get (truthS S l) (i := k) hlt
    have htr := true_height hT hlt
    have hg := hL_get l hlt
    replace hx : ((List.range S.pts.toNat).map (fun i => fallR (tbl (truthS S l)) i S.pts.toNat))[k]? = some (fallR (tbl (truthS S l)) k S.pts.toNat) := hx
    generalize fallR (tbl (truthS S l)) k S.pts.toNat = x at hx htr
    repeat' (first | refine rn ?_ | (apply TL_box; exact rfl; exact rfl; exact rfl; intro _ _) | (apply TL_alloc; exact rfl; intro _ _) | (apply TL_buildSlice; exact rfl; exact rfl; exact rfl; exact rfl; exact rfl; intro _ _))
    refine TL_index k rfl rfl rfl (fun w h => hrow1.sl h (fun x hx => by simp only [List.mem_append, List.mem_cons, hx, true_or, or_true])) rfl (by omega) (Nat.le_refl _) ?_
    refine TL_load_eln (u := x) rfl rfl (fun w h => hrow1.sl h (fun x hx => by simp only [List.mem_append, List.mem_cons, hx, true_or, or_true])) hx rfl ?_
    repeat' (first | refine rn ?_ | (apply TL_box; exact rfl; exact rfl; exact rfl; intro _ _) | (apply TL_alloc; exact rfl; intro _ _) | (apply TL_buildSlice; exact rfl; exact rfl; exact rfl; exact rfl; exact rfl; intro _ _))
    apply TC_draw 16; kernel_rfl; exact Try.mixed
    · iterate 2 (refine' pv ?_; rotate_left)
      (refine' PG.val rfl rfl (by intro _X; refine TL_index k rfl rfl rfl (fun w h => hrow.sl h (fun x hx => by simp only [List.mem_append, List.mem_cons, hx, true_or, or_true])) rfl (by omega) (Nat.le_refl _) ?_; exact qe) ?_; rotate_left)
      (refine' PG.val rfl rfl (by intro _X; refine TL_load_el1 (u := trueH l (k : Int)) rfl rfl (fun w h => hrow.sl h (fun x hx => by simp only [List.mem_append, List.mem_cons, hx, true_or, or_true])) hg rfl ?_; exact qe) ?_; rotate_left)
      iterate 2 (refine' pv ?_; rotate_left)
      (refine' PG.val rfl rfl (by intro _X; refine TL_lss_f rfl rfl rfl (by first | omega | (dsimp only; omega)) ?_; exact qe) ?_; rotate_left)
      (refine' pv ?_; rotate_left)
      iterate 2 (refine' pg ?_; rotate_left)
      (refine' PG.val rfl rfl (by intro _X; (refine TL_guard_yes rfl rfl rfl ?_); refine TL_index k rfl rfl rfl (fun w h => hrow.sl h (fun x hx => by simp only [List.mem_append, List.mem_cons, hx, true_or, or_true])) rfl (by omega) (Nat.le_refl _) ?_; exact qe) ?_; rotate_left)
      (refine' PG.val rfl rfl (by intro _X; (refine TL_guard_yes rfl rfl rfl ?_); refine TL_load_el1 (u := trueH l (k : Int)) rfl rfl (fun w h => hrow.sl h (fun x hx => by simp only [List.mem_append, List.mem_cons, hx, true_or, or_true])) hg rfl ?_; exact qe) ?_; rotate_left)
      iterate 2 (refine' pg ?_; rotate_left)
      (refine' PG.val rfl rfl (by intro _X; (refine TL_guard_yes rfl rfl rfl ?_); refine TL_gtr_f rfl rfl rfl (by first | omega | (dsimp only; omega)) ?_; exact qe) ?_; rotate_left)
      (refine' pv ?_; rotate_left)
      exact PG.nil
    change TL _ _ _ _ _ _ _ _ _ _ _
    repeat' (first | refine rn ?_ | (apply TL_box; exact rfl; exact rfl; exact rfl; intro _ _) | (apply TL_alloc; exact rfl; intro _ _) | (apply TL_buildSlice; exact rfl; exact rfl; exact rfl; exact rfl; exact rfl; intro _ _))
    refine TQ_round (k + 1) hlt (by omega) sb (fun w h => h.sub (List.Sublist.cons _ (List.Sublist.refl _)))
  repeat' (first | refine rn ?_ | (apply TL_box; exact rfl; exact rfl; exact rfl; intro _ _) | (apply TL_alloc; exact rfl; intro _ _) | (apply TL_buildSlice; exact rfl; exact rfl; exact rfl; exact rfl; exact rfl; intro _ _))
  refine TC_loop (σ := Nat × Option Addr × Nat × Hp) (fun q => q.1 ≤ S.pts.toNat ∧ Row 3 1 encI q.2.1 q.2.2.1 q.2.2.2 (cnt q.1)) (fun q => [(1, .slice lo l.length lc), (2, .pointer (some ⟨b2, 0, none⟩)), (5, .bool true), (6, .slice so (hL l S.pts.toNat).length sc), (11, .slice q.2.1 (cnt q.1).length q.2.2.1), (82, .int .i64 S.pts), (83, .int .i64 (q.1 : Int))]) (fun q => q.2.2.2 ++ (obh ++ (z.o3 ++ (z.o2 ++ (z.o1 ++ ([(b2, .cells (encSv S z.p) 26)] : Hp)))))) (fun q => S.pts.toNat - q.1) (0, none, 0, []) ⟨Nat.zero_le _, Row.nil _ _ _⟩ sb (fun w h => h.sub (List.sublist_append_right _ _)) (fun q hq => ?_)
  obtain ⟨k, so2, sc2, ob2⟩ := q
  obtain ⟨hk2, hrow2⟩ := hq
  dsimp only at hk2 hrow2 ⊢
  have hcl := cnt_len k
  repeat' (first | refine rn ?_ | (apply TL_box; exact rfl; exact rfl; exact rfl; intro _ _) | (apply TL_alloc; exact rfl; intro _ _) | (apply TL_buildSlice; exact rfl; exact rfl; exact rfl; exact rfl; exact rfl; intro _ _))
  refine TC_cond_dec rfl (fun g2 => ?_) (fun g2 => ?_)
  · have hlt : k < S.pts.toNat := by omega
    have hs1 := cnt_succ k
    have hpt := partN_rg (n := S.pts - 1) (by omega) l ((k : Int) + 11)
    have ik : In (k : Int) 0 (S.pts - 1) := by simp only [In]; omega
    have ij : In (partN (S.pts - 1) l ((k : Int) + 11)) 0 (S.pts - 1) := by simp only [In]; omega
    have htr := true_fall hT ik ij
    have hg := hL_get l hlt
    have hg2 := hL_get' l (k := S.pts.toNat) (i := partN (S.pts - 1) l ((k : Int) + 11)) (by omega) (by omega)
    have t1 := trueH_B l (k : Int)
    have t2 := trueH_B l (partN (S.pts - 1) l ((k : Int) + 11))
    have c18' := fun j w h => c18 (truthS S l) z.p (k : Int) j n1 n2 n3 w h
    have f1 := c18' (partN (S.pts - 1) l ((k : Int) + 11))
    rw [encSv_truth, fallF_ok hT.okT hT.fit ik ij] at f1
    have c38' := c38 (S.pts - 1) l ((k : Int) + 11) (by omega) (by omega) lo lc h4
    generalize partN (S.pts - 1) l ((k : Int) + 11) = j at *
    generalize fallR (tbl (truthS S l)) (k : Int).toNat j.toNat = x at f1 htr
    repeat' (first | refine rn ?_ | (apply TL_box; exact rfl; exact rfl; exact rfl; intro _ _) | (apply TL_alloc; exact rfl; intro _ _) | (apply TL_buildSlice; exact rfl; exact rfl; exact rfl; exact rfl; exact rfl; intro _ _))
    refine TL_append (l := cnt k) (l2 := [(k : Int)]) (enc := encI) (G := _) rfl (by rfl) rfl rfl rfl rfl rfl hrow2 (pm_cons pm_here) (fun w h => Sl.of_blk h mm (fun _ _ => rfl) ⟨[], by rfl⟩) (fun u _ => rfl) (by simp only [List.length_singleton]; omega) (by simp only [List.length_singleton, maxLen]; omega) (fun so3 sc3 ob3 hrow3 => ?_)
    rw [← hs1] at hrow3 ⊢
    repeat' (first | refine rn ?_ | (apply TL_box; exact rfl; exact rfl; exact rfl; intro _ _) | (apply TL_alloc; exact rfl; intro _ _) | (apply TL_buildSlice; exact rfl; exact rfl; exact rfl; exact rfl; exact rfl; intro _ _))
    refine TL_callV rfl rfl rfl (fun w h => c38' w (h.sl hb)) ?_
    repeat' (first | refine rn ?_ | (apply TL_box; exact rfl; exact rfl; exact rfl; intro _ _) | (apply TL_alloc; exact rfl; intro _ _) | (apply TL_buildSlice; exact rfl; exact rfl; exact rfl; exact rfl; exact rfl; intro _ _))
    refine TL_callV rfl rfl rfl (fun w h => f1 w (hzS h (fun x hx => by simp only [List.mem_append, List.mem_cons, hx, true_or, or_true]) (fun x hx => by simp only [List.mem_append, List.mem_cons, hx, true_or, or_true]) (fun x hx => by simp only [List.mem_append, List.mem_cons, hx, true_or, or_true]))) ?_
    repeat' (first | refine rn ?_ | (apply TL_box; exact rfl; exact rfl; exact rfl; intro _ _) | (apply TL_alloc; exact rfl; intro _ _) | (apply TL_buildSlice; exact rfl; exact rfl; exact rfl; exact rfl; exact rfl; intro _ _))
    apply TC_draw 30; kernel_rfl; exact Try.mixed
    · iterate 3 (refine' pv ?_; rotate_left)
      iterate 2 (refine' pg ?_; rotate_left)
      (refine' PG.val rfl rfl (by intro _X; (refine TL_guard_yes rfl rfl rfl ?_); refine TL_index k rfl rfl rfl (fun w h => hrow.sl h (fun x hx => by simp only [List.mem_append, List.mem_cons, hx, true_or, or_true])) rfl (by omega) (Nat.le_refl _) ?_; exact qe) ?_; rotate_left)
      (refine' PG.val rfl rfl (by intro _X; (refine TL_guard_yes rfl rfl rfl ?_); refine TL_load_el1 (u := trueH l (k : Int)) rfl rfl (fun w h => hrow.sl h (fun x hx => by simp only [List.mem_append, List.mem_cons, hx, true_or, or_true])) hg rfl ?_; exact qe) ?_; rotate_left)
      iterate 2 (refine' pg ?_; rotate_left)
      (refine' PG.val rfl rfl (by intro _X; (refine TL_guard_yes rfl rfl rfl ?_); refine TL_index j.toNat rfl rfl rfl (fun w h => hrow.sl h (fun x hx => by simp only [List.mem_append, List.mem_cons, hx, true_or, or_true])) (by omega) (by omega) (Nat.le_refl _) ?_; exact qe) ?_; rotate_left)
      (refine' PG.val rfl rfl (by intro _X; (refine TL_guard_yes rfl rfl rfl ?_); refine TL_load_el1 (u := trueH l j) rfl rfl (fun w h => hrow.sl h (fun x hx => by simp only [List.mem_append, List.mem_cons, hx, true_or, or_true])) hg2 rfl ?_; exact qe) ?_; rotate_left)
      iterate 3 (refine' pg ?_; rotate_left)
      (refine' PG.val rfl rfl (by intro _X; (refine TL_guard_yes rfl rfl rfl ?_); refine TL_lss_f rfl rfl rfl (by first | omega | (dsimp only; omega)) ?_; exact qe) ?_; rotate_left)
      iterate 2 (refine' pv ?_; rotate_left)
      iterate 2 (refine' pg ?_; rotate_left)
      (refine' PG.val rfl rfl (by intro _X; (refine TL_guard_yes rfl rfl rfl ?_); refine TL_index k rfl rfl rfl (fun w h => hrow.sl h (fun x hx => by simp only [List.mem_append, List.mem_cons, hx, true_or, or_true])) rfl (by omega) (Nat.le_refl _) ?_; exact qe) ?_; rotate_left)
      (refine' PG.val rfl rfl (by intro _X; (refine TL_guard_yes rfl rfl rfl ?_); refine TL_load_el1 (u := trueH l (k : Int)) rfl rfl (fun w h => hrow.sl h (fun x hx => by simp only [List.mem_append, List.mem_cons, hx, true_or, or_true])) hg rfl ?_; exact qe) ?_; rotate_left)
      iterate 2 (refine' pg ?_; rotate_left)
      (refine' PG.val rfl rfl (by intro _X; (refine TL_guard_yes rfl rfl rfl ?_); refine TL_index j.toNat rfl rfl rfl (fun w h => hrow.sl h (fun x hx => by simp only [List.mem_append, List.mem_cons, hx, true_or, or_true])) (by omega) (by omega) (Nat.le_refl _) ?_; exact qe) ?_; rotate_left)
      (refine' PG.val rfl rfl (by intro _X; (refine TL_guard_yes rfl rfl rfl ?_); refine TL_load_el1 (u := trueH l j) rfl rfl (fun w h => hrow.sl h (fun x hx => by simp only [List.mem_append, List.mem_cons, hx, true_or, or_true])) hg2 rfl ?_; exact qe) ?_; rotate_left)
      iterate 3 (refine' pg ?_; rotate_left)
      (refine' PG.val rfl rfl (by intro _X; (refine TL_guard_yes rfl rfl rfl ?_); refine TL_gtr_f rfl rfl rfl (by first | omega | (dsimp only; omega)) ?_; exact qe) ?_; rotate_left)
      (refine' pv ?_; rotate_left)
      exact PG.nil
    change TL _ _ _ _ _ _ _ _ _ _ _
    repeat' (first | refine rn ?_ | (apply TL_box; exact rfl; exact rfl; exact rfl; intro _ _) | (apply TL_alloc; exact rfl; intro _ _) | (apply TL_buildSlice; exact rfl; exact rfl; exact rfl; exact rfl; exact rfl; intro _ _))
    refine TQ_round (k + 1, so3, sc3, ob3) ⟨by dsimp only; omega, hrow3⟩ (by dsimp only; omega) sb (fun w h => h.sub (List.Sublist.cons _ (List.Sublist.append_left (List.Sublist.cons _ (List.Sublist.refl _)) _)))
  have hk' : k = S.pts.toNat := by omega
  subst hk'
  have c33' := fun w h1 h2 => c33 (truthS S l) z.p (cnt S.pts.toNat) so2 sc2 (by omega) n1 n2 n3 w h1 h2
  have hrt := runs_true hT.okT hT.fit
  replace hrt : runsF (truthS S l) (cnt S.pts.toNat) = (runsL (tbl (truthS S l)) (cnt S.pts.toNat), 0) := hrt
  rw [encSv_truth, hrt] at c33'
  have hrl := runsL_cl (T := tbl (truthS S l)) (n := S.pts.toNat)
  repeat' (first | refine rn ?_ | (apply TL_box; exact rfl; exact rfl; exact rfl; intro _ _) | (apply TL_alloc; exact rfl; intro _ _) | (apply TL_buildSlice; exact rfl; exact rfl; exact rfl; exact rfl; exact rfl; intro _ _))
  refine TL_callN rfl rfl rfl (fun w h => c33' w (hzS h (fun x hx => by simp only [List.mem_append, List.mem_cons, hx, true_or, or_true]) (fun x hx => by simp only [List.mem_append, List.mem_cons, hx, true_or, or_true]) (fun x hx => by simp only [List.mem_append, List.mem_cons, hx, true_or, or_true])) (hrow2.sl h (fun x hx => by simp only [List.mem_append, List.mem_cons, hx, true_or, or_true]))) ?_
  rintro ⟨so4, sc4, ob4⟩ hrow4
  replace hrow4 : Row 5 1 encU8 so4 sc4 ob4 (runsL (tbl (truthS S l)) (cnt S.pts.toNat)) := hrow4
  change TL _ _ _ _ _ _ _ _ _ _ _
  dsimp only
  repeat' (first | (refine TL_neq_f rfl rfl rfl (by first | omega | (dsimp only; omega)) ?_) | refine r1 ?_ | (apply TL_box; exact rfl; exact rfl; exact rfl; intro _ _) | (apply TL_alloc; exact rfl; intro _ _) | (apply TL_buildSlice; exact rfl; exact rfl; exact rfl; exact rfl; exact rfl; intro _ _))
  refine TC_loop (σ := Nat) (fun k => k ≤ S.pts.toNat - 1) (fun k => [(1, .slice lo l.length lc), (2, .pointer (some ⟨b2, 0, none⟩)), (5, .bool true), (6, .slice so (hL l S.pts.toNat).length sc), (151, .slice so4 (runsL (tbl (truthS S l)) (cnt S.pts.toNat)).length sc4), (152, .int .i64 (runsL (tbl (truthS S l)) (cnt S.pts.toNat)).length), (153, .int .i64 (k : Int))]) (fun _ => ob4 ++ (ob2 ++ (obh ++ (z.o3 ++ (z.o2 ++ (z.o1 ++ ([(b2, .cells (encSv S z.p) 26)] : Hp))))))) (fun k => S.pts.toNat - k) 0 (Nat.zero_le _) sb (fun w h => h) (fun k hk => ?_)
  repeat' (first | refine rn ?_ | (apply TL_box; exact rfl; exact rfl; exact rfl; intro _ _) | (apply TL_alloc; exact rfl; intro _ _) | (apply TL_buildSlice; exact rfl; exact rfl; exact rfl; exact rfl; exact rfl; intro _ _))
  refine TC_cond_dec rfl (fun g3 => ?_) (fun g3 => ?_)
  · have hlt : k + 1 < S.pts.toNat := by omega
    have hx := runs_at (T := tbl (truthS S l)) hlt
    have htr := true_run hT hlt
    have hg := hL_get l (show k < S.pts.toNat by omega)
    have hg2 := hL_get l hlt
    generalize runR (tbl (truthS S l)) (k : Int) ((k + 1 : Nat) : Int) = x at hx htr
    repeat' (first | refine rn ?_ | (apply TL_box; exact rfl; exact rfl; exact rfl; intro _ _) | (apply TL_alloc; exact rfl; intro _ _) | (apply TL_buildSlice; exact rfl; exact rfl; exact rfl; exact rfl; exact rfl; intro _ _))
    refine TL_index k rfl rfl rfl (fun w h => hrow4.sl h (fun x hx => by simp only [List.mem_append, List.mem_cons, hx, true_or, or_true])) rfl (by omega) (Nat.le_refl _) ?_
    refine TL_load_el1 (u := x) rfl rfl (fun w h => hrow4.sl h (fun x hx => by simp only [List.mem_append, List.mem_cons, hx, true_or, or_true])) hx rfl ?_
    repeat' (first | refine rn ?_ | (apply TL_box; exact rfl; exact rfl; exact rfl; intro _ _) | (apply TL_alloc; exact rfl; intro _ _) | (apply TL_buildSlice; exact rfl; exact rfl; exact rfl; exact rfl; exact rfl; intro _ _))
    rcases htr with ⟨rfl, htr⟩ | ⟨rfl, htr⟩ | rfl
    · skip
      apply TC_draw 34; kernel_rfl; exact Try.mixed
      · iterate 3 (refine' pv ?_; rotate_left)
        iterate 5 (refine' pg ?_; rotate_left)
        (refine' PG.val rfl rfl (by intro _X; (refine TL_guard_yes rfl rfl rfl ?_); refine TL_index k rfl rfl rfl (fun w h => hrow.sl h (fun x hx => by simp only [List.mem_append, List.mem_cons, hx, true_or, or_true])) rfl (by omega) (Nat.le_refl _) ?_; exact qe) ?_; rotate_left)
        (refine' PG.val rfl rfl (by intro _X; (refine TL_guard_yes rfl rfl rfl ?_); refine TL_load_el1 (u := trueH l (k : Int)) rfl rfl (fun w h => hrow.sl h (fun x hx => by simp only [List.mem_append, List.mem_cons, hx, true_or, or_true])) hg rfl ?_; exact qe) ?_; rotate_left)
        iterate 3 (refine' pg ?_; rotate_left)
        (refine' PG.val rfl rfl (by intro _X; (refine TL_guard_yes rfl rfl rfl ?_); refine TL_index (k + 1) rfl rfl rfl (fun w h => hrow.sl h (fun x hx => by simp only [List.mem_append, List.mem_cons, hx, true_or, or_true])) (by omega) (by omega) (Nat.le_refl _) ?_; exact qe) ?_; rotate_left)
        (refine' PG.val rfl rfl (by intro _X; (refine TL_guard_yes rfl rfl rfl ?_); refine TL_load_el1 (u := trueH l ((k + 1 : Nat) : Int)) rfl rfl (fun w h => hrow.sl h (fun x hx => by simp only [List.mem_append, List.mem_cons, hx, true_or, or_true])) hg2 rfl ?_; exact qe) ?_; rotate_left)
        (refine' PG.val rfl rfl (by intro _X; (refine TL_guard_yes rfl rfl rfl ?_); refine TL_leq_f rfl rfl rfl (by first | omega | (dsimp only; omega)) ?_; exact qe) ?_; rotate_left)
        (refine' pg ?_; rotate_left)
        iterate 2 (refine' pv ?_; rotate_left)
        iterate 3 (refine' pg ?_; rotate_left)
        iterate 10 (refine' pv ?_; rotate_left)
        (refine' pg ?_; rotate_left)
        (refine' pv ?_; rotate_left)
        exact PG.nil
      change TL _ _ _ _ _ _ _ _ _ _ _
      repeat' (first | refine rn ?_ | (apply TL_box; exact rfl; exact rfl; exact rfl; intro _ _) | (apply TL_alloc; exact rfl; intro _ _) | (apply TL_buildSlice; exact rfl; exact rfl; exact rfl; exact rfl; exact rfl; intro _ _))
      refine TQ_round (k + 1) (by omega) (by omega) sb (fun w h => h)
    · skip
      apply TC_draw 34; kernel_rfl; exact Try.mixed
      · iterate 3 (refine' pv ?_; rotate_left)
        iterate 3 (refine' pg ?_; rotate_left)
        iterate 10 (refine' pv ?_; rotate_left)
        (refine' pg ?_; rotate_left)
        iterate 2 (refine' pv ?_; rotate_left)
        iterate 5 (refine' pg ?_; rotate_left)
        (refine' PG.val rfl rfl (by intro _X; (refine TL_guard_yes rfl rfl rfl ?_); refine TL_index k rfl rfl rfl (fun w h => hrow.sl h (fun x hx => by simp only [List.mem_append, List.mem_cons, hx, true_or, or_true])) rfl (by omega) (Nat.le_refl _) ?_; exact qe) ?_; rotate_left)
        (refine' PG.val rfl rfl (by intro _X; (refine TL_guard_yes rfl rfl rfl ?_); refine TL_load_el1 (u := trueH l (k : Int)) rfl rfl (fun w h => hrow.sl h (fun x hx => by simp only [List.mem_append, List.mem_cons, hx, true_or, or_true])) hg rfl ?_; exact qe) ?_; rotate_left)
        iterate 3 (refine' pg ?_; rotate_left)
        (refine' PG.val rfl rfl (by intro _X; (refine TL_guard_yes rfl rfl rfl ?_); refine TL_index (k + 1) rfl rfl rfl (fun w h => hrow.sl h (fun x hx => by simp only [List.mem_append, List.mem_cons, hx, true_or, or_true])) (by omega) (by omega) (Nat.le_refl _) ?_; exact qe) ?_; rotate_left)
        (refine' PG.val rfl rfl (by intro _X; (refine TL_guard_yes rfl rfl rfl ?_); refine TL_load_el1 (u := trueH l ((k + 1 : Nat) : Int)) rfl rfl (fun w h => hrow.sl h (fun x hx => by simp only [List.mem_append, List.mem_cons, hx, true_or, or_true])) hg2 rfl ?_; exact qe) ?_; rotate_left)
        (refine' PG.val rfl rfl (by intro _X; (refine TL_guard_yes rfl rfl rfl ?_); refine TL_gtr_f rfl rfl rfl (by first | omega | (dsimp only; omega)) ?_; exact qe) ?_; rotate_left)
        (refine' pg ?_; rotate_left)
        (refine' pv ?_; rotate_left)
        exact PG.nil
      change TL _ _ _ _ _ _ _ _ _ _ _
      repeat' (first | refine rn ?_ | (apply TL_box; exact rfl; exact rfl; exact rfl; intro _ _) | (apply TL_alloc; exact rfl; intro _ _) | (apply TL_buildSlice; exact rfl; exact rfl; exact rfl; exact rfl; exact rfl; intro _ _))
      refine TQ_round (k + 1) (by omega) (by omega) sb (fun w h => h)
    · skip
      apply TC_draw 34; kernel_rfl; exact Try.mixed
      · iterate 3 (refine' pv ?_; rotate_left)
        iterate 3 (refine' pg ?_; rotate_left)
        iterate 10 (refine' pv ?_; rotate_left)
        (refine' pg ?_; rotate_left)
        iterate 2 (refine' pv ?_; rotate_left)
        iterate 3 (refine' pg ?_; rotate_left)
        iterate 10 (refine' pv ?_; rotate_left)
        (refine' pg ?_; rotate_left)
        (refine' pv ?_; rotate_left)
        exact PG.nil
      change TL _ _ _ _ _ _ _ _ _ _ _
      repeat' (first | refine rn ?_ | (apply TL_box; exact rfl; exact rfl; exact rfl; intro _ _) | (apply TL_alloc; exact rfl; intro _ _) | (apply TL_buildSlice; exact rfl; exact rfl; exact rfl; exact rfl; exact rfl; intro _ _))
      refine TQ_round (k + 1) (by omega) (by omega) sb (fun w h => h)
  repeat' (first | refine rn ?_ | (apply TL_box; exact rfl; exact rfl; exact rfl; intro _ _) | (apply TL_alloc; exact rfl; intro _ _) | (apply TL_buildSlice; exact rfl; exact rfl; exact rfl; exact rfl; exact rfl; intro _ _))
  refine TC_loop (σ := Nat) (fun k => k ≤ S.thr.length) (fun k => [(1, .slice lo l.length lc), (2, .pointer (some ⟨b2, 0, none⟩)), (5, .bool true), (6, .slice so (hL l S.pts.toNat).length sc), (194, .slice z.p.a3 S.thr.length z.p.c3), (195, .int .i64 S.thr.length), (196, .int .i64 (k : Int))]) (fun _ => (obh ++ (z.o3 ++ (z.o2 ++ (z.o1 ++ ([(b2, .cells (encSv S z.p) 26)] : Hp)))))) (fun k => S.thr.length - k) 0 (Nat.zero_le _) sb (fun w h => h.sub ((List.sublist_append_right _ _).trans (List.sublist_append_right _ _))) (fun k hk => ?_)
  repeat' (first | refine rn ?_ | (apply TL_box; exact rfl; exact rfl; exact rfl; intro _ _) | (apply TL_alloc; exact rfl; intro _ _) | (apply TL_buildSlice; exact rfl; exact rfl; exact rfl; exact rfl; exact rfl; intro _ _))
  refine TC_cond_dec rfl (fun g4 => ?_) (fun g4 => ?_)
  · have hlt : k < S.thr.length := by omega
    obtain ⟨x, hx⟩ : ∃ x, S.thr[k]? = some x := ⟨_, List.getElem?_eq_getElem hlt⟩
    obtain ⟨⟨i1, i2, _⟩, ho⟩ := hS.2.2.2.2.2.2 x (List.mem_of_getElem? hx)
    simp only [Ord] at ho
    simp only [In] at i1 i2
    have hpt := partN_rg (n := x.long.2 - x.long.1) (by omega) l ((k : Int) + 13)
    obtain ⟨v, e1, hv, hv1, hv2⟩ := true_slope hS hT hx (long := x.long.1 + partN (x.long.2 - x.long.1) l ((k : Int) + 13)) (by omega)
    have f1 := fun w h => c31 (truthS S l) z.p (k : Int) n1 n2 n3 w h
    rw [encSv_truth, e1] at f1
    have t1 := trueH_B l x.fr
    have t2 := trueH_B l x.to
    have hg := hL_get' l (k := S.pts.toNat) (i := x.fr) (by omega) (by omega)
    have hg2 := hL_get' l (k := S.pts.toNat) (i := x.to) (by omega) (by omega)
    have hz3 : RowE 72 4 encTh z.p.a3 z.p.c3 z.o3 S.thr := hz.r3
    have c38' := c38 (x.long.2 - x.long.1) l ((k : Int) + 13) (by omega) (by omega) lo lc h4
    repeat' (first | refine rn ?_ | (apply TL_box; exact rfl; exact rfl; exact rfl; intro _ _) | (apply TL_alloc; exact rfl; intro _ _) | (apply TL_buildSlice; exact rfl; exact rfl; exact rfl; exact rfl; exact rfl; intro _ _))
    refine TL_index k rfl rfl rfl (fun w h => hz3.sl h (fun x hx => by simp only [List.mem_append, List.mem_cons, hx, true_or, or_true])) rfl hlt (Nat.le_refl _) ?_
    refine TL_load_eln (u := x) rfl rfl (fun w h => hz3.sl h (fun x hx => by simp only [List.mem_append, List.mem_cons, hx, true_or, or_true])) hx rfl ?_
    repeat' (first | refine rn ?_ | (apply TL_box; exact rfl; exact rfl; exact rfl; intro _ _) | (apply TL_alloc; exact rfl; intro _ _) | (apply TL_buildSlice; exact rfl; exact rfl; exact rfl; exact rfl; exact rfl; intro _ _))
    apply TC_draw 15; kernel_rfl; exact Try.mixed
    · iterate 13 (refine' pv ?_; rotate_left)
      (refine' PG.val rfl rfl (by intro _X; refine TL_callV rfl rfl rfl (fun w h => c38' w (h.sl hb)) ?_; exact qe) ?_; rotate_left)
      (refine' pv ?_; rotate_left)
      exact PG.nil
    change TL _ _ _ _ _ _ _ _ _ _ _
    generalize x.long.1 + partN (x.long.2 - x.long.1) l ((k : Int) + 13) = long at *
    change TL _ _ _ _ _ _ _ _ _ _ _
    repeat' (first | refine rn ?_ | (apply TL_box; exact rfl; exact rfl; exact rfl; intro _ _) | (apply TL_alloc; exact rfl; intro _ _) | (apply TL_buildSlice; exact rfl; exact rfl; exact rfl; exact rfl; exact rfl; intro _ _))
    refine TL_callV rfl rfl rfl (fun w h => f1 w (hzS h (fun x hx => by simp only [List.mem_append, List.mem_cons, hx, true_or, or_true]) (fun x hx => by simp only [List.mem_append, List.mem_cons, hx, true_or, or_true]) (fun x hx => by simp only [List.mem_append, List.mem_cons, hx, true_or, or_true]))) ?_
    repeat' (first | refine rn ?_ | (apply TL_box; exact rfl; exact rfl; exact rfl; intro _ _) | (apply TL_alloc; exact rfl; intro _ _) | (apply TL_buildSlice; exact rfl; exact rfl; exact rfl; exact rfl; exact rfl; intro _ _))
    apply TC_draw 12; kernel_rfl; exact Try.mixed
    · iterate 3 (refine' pv ?_; rotate_left)
      (refine' PG.val rfl rfl (by intro _X; refine TL_index x.fr.toNat rfl rfl rfl (fun w h => hrow.sl h (fun x hx => by simp only [List.mem_append, List.mem_cons, hx, true_or, or_true])) (by omega) (by omega) (Nat.le_refl _) ?_; exact qe) ?_; rotate_left)
      (refine' PG.val rfl rfl (by intro _X; refine TL_load_el1 (u := trueH l x.fr) rfl rfl (fun w h => hrow.sl h (fun x hx => by simp only [List.mem_append, List.mem_cons, hx, true_or, or_true])) hg rfl ?_; exact qe) ?_; rotate_left)
      iterate 3 (refine' pv ?_; rotate_left)
      (refine' PG.val rfl rfl (by intro _X; refine TL_index x.to.toNat rfl rfl rfl (fun w h => hrow.sl h (fun x hx => by simp only [List.mem_append, List.mem_cons, hx, true_or, or_true])) (by omega) (by omega) (Nat.le_refl _) ?_; exact qe) ?_; rotate_left)
      (refine' PG.val rfl rfl (by intro _X; refine TL_load_el1 (u := trueH l x.to) rfl rfl (fun w h => hrow.sl h (fun x hx => by simp only [List.mem_append, List.mem_cons, hx, true_or, or_true])) hg2 rfl ?_; exact qe) ?_; rotate_left)
      iterate 2 (refine' pv ?_; rotate_left)
      exact PG.nil
    change TL _ _ _ _ _ _ _ _ _ _ _
    repeat' (first | (refine TL_lss_f rfl rfl rfl (by first | omega | (dsimp only; omega)) ?_) | (refine TL_gtr_f rfl rfl rfl (by first | omega | (dsimp only; omega)) ?_) | refine r1 ?_ | (apply TL_box; exact rfl; exact rfl; exact rfl; intro _ _) | (apply TL_alloc; exact rfl; intro _ _) | (apply TL_buildSlice; exact rfl; exact rfl; exact rfl; exact rfl; exact rfl; intro _ _))
    refine TQ_round (k + 1) hlt (by omega) sb (fun w h => h.sub (List.Sublist.cons _ (List.Sublist.cons _ (List.Sublist.refl _))))
  have c26' := fun w h => c26 (truthS S l) z.p n1 n2 n3 w h
  rw [encSv_truth, clashI_ok hT.okT hT.fit] at c26'
  have c28' := fun w h => c28 (truthS S l) z.p n1 n2 n3 w h
  rw [encSv_truth, widenF_ok hT.okT, widen_zero hT.okT hT.fit] at c28'
  repeat' (first | refine rn ?_ | (apply TL_box; exact rfl; exact rfl; exact rfl; intro _ _) | (apply TL_alloc; exact rfl; intro _ _) | (apply TL_buildSlice; exact rfl; exact rfl; exact rfl; exact rfl; exact rfl; intro _ _))
  refine TL_callN rfl rfl rfl (fun w h => c26' w (hzS h (fun x hx => by simp only [List.mem_append, List.mem_cons, hx, true_or, or_true]) (fun x hx => by simp only [List.mem_append, List.mem_cons, hx, true_or, or_true]) (fun x hx => by simp only [List.mem_append, List.mem_cons, hx, true_or, or_true]))) ?_
  rintro ⟨so5, sc5, ob5⟩ hrow5
  change TL _ _ _ _ _ _ _ _ _ _ _
  dsimp only
  repeat' (first | refine rn ?_ | (apply TL_box; exact rfl; exact rfl; exact rfl; intro _ _) | (apply TL_alloc; exact rfl; intro _ _) | (apply TL_buildSlice; exact rfl; exact rfl; exact rfl; exact rfl; exact rfl; intro _ _))
  refine TL_callV rfl rfl rfl (fun w h => c28' w (hzS h (fun x hx => by simp only [List.mem_append, List.mem_cons, hx, true_or, or_true]) (fun x hx => by simp only [List.mem_append, List.mem_cons, hx, true_or, or_true]) (fun x hx => by simp only [List.mem_append, List.mem_cons, hx, true_or, or_true]))) ?_
  repeat' (first | (refine TL_eql_same rfl rfl rfl ?_) | refine r1 ?_ | (apply TL_box; exact rfl; exact rfl; exact rfl; intro _ _) | (apply TL_alloc; exact rfl; intro _ _) | (apply TL_buildSlice; exact rfl; exact rfl; exact rfl; exact rfl; exact rfl; intro _ _))
  exact TQ_ret1 Try.results6 (RV.tmp rfl) (fun w' hs => ⟨rfl, hs.below⟩)
end Go.Proofs.Ytoolblbdmmiahaa
