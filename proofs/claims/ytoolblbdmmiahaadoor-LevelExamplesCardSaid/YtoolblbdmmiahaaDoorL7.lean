/- Walks: open, fall, Heights, Fall. -/
import Derived.Test.YtoolblbdmmiahaaDoorL6
import Derived.Test.YtoolblbdmmiahaaDoorLF
namespace Go.Proofs.YtoolblbdmmiahaaDoor
open Go Go.Eng Go.RowKit Go.Proofs
set_option maxHeartbeats 4000000
set_option maxRecDepth 10000
attribute [local irreducible] TL TC TQ

theorem c56n (S : Sv) (p : Pl) (wd : Int) (hwd : 0 ≤ wd ∧ wd ≤ 40000000) (hS : OkSv S) (w : World) (ha : SvAt w S p) :
    Calls Tryd.prog 24 #[.agg (encY S p none wd).toArray] w (RetP w.heap.size w (fun b : Nat => .tuple #[.pointer (some ⟨b, 0, none⟩), .bool (solveR S none_ wd).2]) (fun b => [(b, .cells (encT 21 441 (solveR S none_ wd).1) 76)]) (fun _ => True)) :=
  c56 S p none none_ wd [] [] hS (.inl ⟨rfl, rfl, fun _ => rfl⟩) hwd (fun h => ha.mono h) w (SH.refl w)
theorem c44 (S : Sv) (p : Pl) (h1 : S.shots.length ≤ 1000000) (h2 : S.marks.length ≤ 1000000) (h3 : S.thr.length ≤ 1000000) (w : World) (ha : SvAt w S p) :
    Calls Tryd.prog 19 #[.agg (encSv S p).toArray] w (RetP w.heap.size w (fun q : Option Nat => .tuple #[.pointer (q.map (fun b => ⟨b, 0, none⟩)), .int .i64 (if ¬ OkSv S then 10 else if okS S = true then 0 else 11)]) (fun q => match q with | some b => [(b, .cells (encT 21 441 (tbl S)) 76)] | none => []) (fun q => q.isSome = true ↔ OkSv S ∧ okS S = true)) := by
  refine enter (args := [.agg (encSv S p).toArray]) Tryd.func19 rfl Tryd.ntmps19 rfl (SH.refl _) ?_
  repeat' (first | refine rn ?_ | (apply TL_box; exact rfl; exact rfl; exact rfl; intro _ _) | (apply TL_alloc; exact rfl; intro _ _) | (apply TL_buildSlice; exact rfl; exact rfl; exact rfl; exact rfl; exact rfl; intro _ _))
  refine TL_callV rfl rfl rfl (fun w h => c20 S p h1 h2 h3 w (ha.mono h)) ?_
  by_cases hS : OkSv S
  · rw [checkS_ok hS]
    repeat' (first | refine rn ?_ | (apply TL_box; exact rfl; exact rfl; exact rfl; intro _ _) | (apply TL_alloc; exact rfl; intro _ _) | (apply TL_buildSlice; exact rfl; exact rfl; exact rfl; exact rfl; exact rfl; intro _ _))
    refine TL_callN rfl rfl rfl (fun w h => c56n S p 0 (by omega) hS w (ha.mono h)) ?_
    rintro b -
    change TL _ _ _ _ _ _ _ _ _ _ _
    have e : (solveR S none_ 0).2 = okS S := rfl
    have e' : (solveR S none_ 0).1 = tbl S := rfl
    rw [e, e']
    rw [if_neg (not_not_intro hS)]
    cases hok : okS S with
    | true =>
      repeat' (first | refine rn ?_ | (apply TL_box; exact rfl; exact rfl; exact rfl; intro _ _) | (apply TL_alloc; exact rfl; intro _ _) | (apply TL_buildSlice; exact rfl; exact rfl; exact rfl; exact rfl; exact rfl; intro _ _))
      exact TQ_ret2 Tryd.results19 (RV.tmp rfl) (RV.tmp rfl) (fun w' hs => ⟨some b, ⟨fun _ => ⟨hS, rfl⟩, fun _ => rfl⟩, rfl, hs.sub (by repeat (first | exact List.Sublist.refl _ | apply List.Sublist.cons_cons | apply List.Sublist.cons | exact List.nil_sublist _))⟩)
    | false =>
      repeat' (first | refine rn ?_ | (apply TL_box; exact rfl; exact rfl; exact rfl; intro _ _) | (apply TL_alloc; exact rfl; intro _ _) | (apply TL_buildSlice; exact rfl; exact rfl; exact rfl; exact rfl; exact rfl; intro _ _))
      exact TQ_ret2 Tryd.results19 (RV.tmp rfl) (RV.tmp rfl) (fun w' hs => ⟨none, ⟨fun h => (by cases h), fun h => (by cases h.2)⟩, rfl, hs.sub (List.nil_sublist _)⟩)
  · rw [checkS_no hS, if_pos hS]
    repeat' (first | refine rn ?_ | (apply TL_box; exact rfl; exact rfl; exact rfl; intro _ _) | (apply TL_alloc; exact rfl; intro _ _) | (apply TL_buildSlice; exact rfl; exact rfl; exact rfl; exact rfl; exact rfl; intro _ _))
    exact TQ_ret2 Tryd.results19 (RV.tmp rfl) (RV.tmp rfl) (fun w' hs => ⟨none, ⟨fun h => (by cases h), fun h => absurd h.1 hS⟩, rfl, hs.sub (List.nil_sublist _)⟩)
theorem c45 {B : Nat} {w0 : World} (T : Tb) (a b : Int) (ha : 0 ≤ a ∧ a < 21) (hb : 0 ≤ b ∧ b < 21) (hT : -100000000 ≤ T a.toNat b.toNat ∧ T a.toNat b.toNat ≤ 100000000) (bt : Nat) (G : Hp) (hm : (bt, .cells (encT 21 441 T) 76) ∈ G) (w : World) (hs : SH B w0 w G) :
    Calls Tryd.prog 21 #[.pointer (some ⟨bt, 0, none⟩), .int .i64 a, .int .i64 b] w (RetP B w0 (fun _ : Unit => .agg (encSp (fallR T a.toNat b.toNat)).toArray) (fun _ => G) (fun _ => True)) := by
  refine enter (args := [.pointer (some ⟨bt, 0, none⟩), .int .i64 a, .int .i64 b]) Tryd.func21 rfl Tryd.ntmps21 rfl hs ?_
  repeat' (first | refine rn ?_ | (apply TL_box; exact rfl; exact rfl; exact rfl; intro _ _) | (apply TL_alloc; exact rfl; intro _ _) | (apply TL_buildSlice; exact rfl; exact rfl; exact rfl; exact rfl; exact rfl; intro _ _))
  have hl1 : a.toNat < 21 := by omega
  have hl2 : b.toNat < 21 := by omega
  apply TC_draw 16; kernel_rfl; exact Tryd.mixed
  · iterate 3 (refine' pv ?_; rotate_left)
    (refine' PG.val rfl rfl (by intro _X; refine TL_nilCheck rfl rfl ?_; exact qe) ?_; rotate_left)
    (refine' PG.val rfl rfl (by intro _X; refine TL_indexAddrA a.toNat rfl rfl rfl (by omega) hl1 ?_; exact qe) ?_; rotate_left)
    (refine' PG.val rfl rfl (by intro _X; refine TL_indexAddrA b.toNat rfl rfl rfl (by omega) hl2 ?_; exact qe) ?_; rotate_left)
    (refine' PG.val rfl rfl (by intro _X; refine TL_load1 rfl rfl (by repeat (first | exact hm | apply List.mem_cons_of_mem | apply List.mem_append_right)) (encT_get (c := 21) (n := 441) (i := a.toNat) (k := b.toNat) T hl2 (by omega) (by omega)) ?_; exact qe) ?_; rotate_left)
    iterate 4 (refine' pv ?_; rotate_left)
    (refine' PG.val rfl rfl (by intro _X; refine TL_nilCheck rfl rfl ?_; exact qe) ?_; rotate_left)
    (refine' PG.val rfl rfl (by intro _X; refine TL_indexAddrA b.toNat rfl rfl rfl (by omega) hl2 ?_; exact qe) ?_; rotate_left)
    (refine' PG.val rfl rfl (by intro _X; refine TL_indexAddrA a.toNat rfl rfl rfl (by omega) hl1 ?_; exact qe) ?_; rotate_left)
    (refine' PG.val rfl rfl (by intro _X; refine TL_load1 rfl rfl (by repeat (first | exact hm | apply List.mem_cons_of_mem | apply List.mem_append_right)) (encT_get (c := 21) (n := 441) (i := b.toNat) (k := a.toNat) T hl1 (by omega) (by omega)) ?_; exact qe) ?_; rotate_left)
    (refine' pv ?_; rotate_left)
    exact PG.nil
  change TL _ _ _ _ _ _ _ _ _ _ _
  repeat' (first | refine rn ?_ | (apply TL_box; exact rfl; exact rfl; exact rfl; intro _ _) | (apply TL_alloc; exact rfl; intro _ _) | (apply TL_buildSlice; exact rfl; exact rfl; exact rfl; exact rfl; exact rfl; intro _ _))
  exact TQ_ret1 Tryd.results21 (RV.celln rfl mm (by rfl)) (fun w' hs => ⟨(), trivial, rfl, hs.sub (List.Sublist.cons _ (List.Sublist.refl _))⟩)
def htsL (S : Sv) (i : Nat) : List Sp := (List.range i).map (fun i => fallR (tbl S) i S.pts.toNat)
theorem c44_ok (S : Sv) (p : Pl) (hS : OkSv S) (hok : okS S = true) (w : World) (ha : SvAt w S p) :
    Calls Tryd.prog 19 #[.agg (encSv S p).toArray] w (RetP w.heap.size w (fun b : Nat => .tuple #[.pointer (some ⟨b, 0, none⟩), .int .i64 0]) (fun b => [(b, .cells (encT 21 441 (tbl S)) 76)]) (fun _ => True)) := by
  obtain ⟨_, h1, h2, h3, _⟩ := id hS
  refine (c44 S p (by omega) (by omega) (by omega) w ha).mono ?_
  rintro e w' ⟨q, hq, he, hs⟩
  obtain ⟨b, rfl⟩ := Option.isSome_iff_exists.1 (hq.2 ⟨hS, hok⟩)
  rw [if_neg (not_not_intro hS), if_pos hok] at he
  exact ⟨b, trivial, he, hs⟩
theorem c44_no (S : Sv) (p : Pl) (h1 : S.shots.length ≤ 1000000) (h2 : S.marks.length ≤ 1000000) (h3 : S.thr.length ≤ 1000000) (w : World) (ha : SvAt w S p) (h : ¬ (OkSv S ∧ okS S = true)) :
    Calls Tryd.prog 19 #[.agg (encSv S p).toArray] w (RetV w (.tuple #[.pointer none, .int .i64 (if ¬ OkSv S then 10 else 11)])) := by
  refine (c44 S p h1 h2 h3 w ha).mono ?_
  rintro e w' ⟨q, hq, he, hs⟩
  cases q with
  | some b => exact absurd (hq.1 rfl) h
  | none =>
    refine ⟨?_, hs.below⟩
    rw [he]
    by_cases hS : OkSv S
    · rw [if_neg (not_not_intro hS), if_neg (not_not_intro hS), if_neg (fun hk => h ⟨hS, hk⟩)]; rfl
    · rw [if_pos hS, if_pos hS]; rfl
theorem c16 (S : Sv) (p : Pl) (h1 : S.shots.length ≤ 1000000) (h2 : S.marks.length ≤ 1000000) (h3 : S.thr.length ≤ 1000000) (w : World) (ha : SvAt w S p) :
    Calls Tryd.prog 11 #[.agg (encSv S p).toArray] w (RetP w.heap.size w (fun q : Option Addr × Nat × Hp => .tuple #[.slice q.1 (heightsF S).1.length q.2.1, .int .i64 (heightsF S).2]) (fun q => q.2.2) (fun q => Row 24 2 encSp q.1 q.2.1 q.2.2 (heightsF S).1)) := by
  refine enter (args := [.agg (encSv S p).toArray]) Tryd.func11 rfl Tryd.ntmps11 rfl (SH.refl _) ?_
  repeat' (first | refine rn ?_ | (apply TL_box; exact rfl; exact rfl; exact rfl; intro _ _) | (apply TL_alloc; exact rfl; intro _ _) | (apply TL_buildSlice; exact rfl; exact rfl; exact rfl; exact rfl; exact rfl; intro _ _))
  rename_i b1 _
  by_cases h : OkSv S ∧ okS S = true
  · obtain ⟨hS, hok⟩ := h
    have hp := hS.1
    simp only [In] at hp
    have e : heightsF S = (htsL S S.pts.toNat, 0) := by unfold heightsF; rw [if_neg (not_not_intro hS), if_pos hok]; rfl
    rw [e]
    refine TL_callN rfl rfl rfl (fun w h => c44_ok S p hS hok w (ha.mono h)) ?_
    rintro bt -
    dsimp only
    repeat' (first | refine rn ?_ | (apply TL_box; exact rfl; exact rfl; exact rfl; intro _ _) | (apply TL_alloc; exact rfl; intro _ _) | (apply TL_buildSlice; exact rfl; exact rfl; exact rfl; exact rfl; exact rfl; intro _ _))
    refine TC_loop (σ := Nat × Option Addr × Nat × Hp) (fun q => q.1 ≤ S.pts.toNat ∧ Row 24 2 encSp q.2.1 q.2.2.1 q.2.2.2 (htsL S q.1)) (fun q => [(1, .pointer (some ⟨b1, 0, none⟩)), (4, .pointer (some ⟨bt, 0, none⟩)), (6, .slice q.2.1 (htsL S q.1).length q.2.2.1), (17, .int .i64 S.pts), (18, .int .i64 q.1)])
      (fun q => q.2.2.2 ++ [(bt, .cells (encT 21 441 (tbl S)) 76), (b1, .cells (encSv S p) 32)]) (fun q => S.pts.toNat - q.1) (0, none, 0, []) ⟨Nat.zero_le _, Row.nil _ _ _⟩ sb (fun w h => h) (fun q hq => ?_)
    obtain ⟨i, so, sc, ob⟩ := q
    obtain ⟨hi, hrow⟩ := hq
    dsimp only at hi hrow ⊢
    have hll : (htsL S i).length = i := by simp [htsL]
    repeat' (first | refine rn ?_ | (apply TL_box; exact rfl; exact rfl; exact rfl; intro _ _) | (apply TL_alloc; exact rfl; intro _ _) | (apply TL_buildSlice; exact rfl; exact rfl; exact rfl; exact rfl; exact rfl; intro _ _))
    refine TC_cond_dec rfl (fun g1 => ?_) (fun g1 => ?_)
    · have hlt : i < S.pts.toNat := by omega
      have hB := tbl_B hS hok (i := i) (k := S.pts.toNat) (by omega) (by omega)
      have hs1 : htsL S (i + 1) = htsL S i ++ [fallR (tbl S) i S.pts.toNat] := by simp [htsL, List.range_succ]
      repeat' (first | refine rn ?_ | (apply TL_box; exact rfl; exact rfl; exact rfl; intro _ _) | (apply TL_alloc; exact rfl; intro _ _) | (apply TL_buildSlice; exact rfl; exact rfl; exact rfl; exact rfl; exact rfl; intro _ _))
      refine TL_call rfl rfl rfl _ _ _ (fun w h => c45 (tbl S) (i : Int) S.pts (by omega) (by omega) (by rw [Int.toNat_natCast]; omega) bt _ mm w h) (fun _ _ => ?_)
      rw [Int.toNat_natCast]
      repeat' (first | refine rn ?_ | (apply TL_box; exact rfl; exact rfl; exact rfl; intro _ _) | (apply TL_alloc; exact rfl; intro _ _) | (apply TL_buildSlice; exact rfl; exact rfl; exact rfl; exact rfl; exact rfl; intro _ _))
      refine TL_append (l := htsL S i) (l2 := [fallR (tbl S) i S.pts.toNat]) (enc := encSp) (G := _) rfl (by rfl) rfl rfl rfl rfl rfl hrow (pm_cons pm_here) (fun w h => Sl.of_blk h mm (fun _ _ => rfl) ⟨[], by rfl⟩) (fun u _ => rfl) (by simp only [List.length_singleton]; omega) (by simp only [List.length_singleton, maxLen]; omega) (fun so' sc' ob' hrow' => ?_)
      rw [← hs1] at hrow' ⊢
      repeat' (first | refine rn ?_ | (apply TL_box; exact rfl; exact rfl; exact rfl; intro _ _) | (apply TL_alloc; exact rfl; intro _ _) | (apply TL_buildSlice; exact rfl; exact rfl; exact rfl; exact rfl; exact rfl; intro _ _))
      refine TQ_round (i + 1, so', sc', ob') ⟨hlt, hrow'⟩ (by dsimp only; omega) sb (fun w h => h.sub (List.Sublist.append_left (List.Sublist.cons _ (List.Sublist.refl _)) _))
    · have hi2 : i = S.pts.toNat := by omega
      subst hi2
      repeat' (first | refine rn ?_ | (apply TL_box; exact rfl; exact rfl; exact rfl; intro _ _) | (apply TL_alloc; exact rfl; intro _ _) | (apply TL_buildSlice; exact rfl; exact rfl; exact rfl; exact rfl; exact rfl; intro _ _))
      exact TQ_ret2 Tryd.results11 (RV.tmp rfl) (RV.tmp rfl) (fun w' hs => ⟨(so, sc, ob), hrow, rfl, hs.sub (List.sublist_append_left _ _)⟩)
  · refine TL_callV rfl rfl rfl (fun w hh => c44_no S p h1 h2 h3 w (ha.mono hh) h) ?_
    by_cases hS : OkSv S
    · have e : heightsF S = ([], 11) := by unfold heightsF; rw [if_neg (not_not_intro hS), if_neg (fun hk => h ⟨hS, hk⟩)]
      rw [e, if_neg (not_not_intro hS)]
      repeat' (first | refine rn ?_ | (apply TL_box; exact rfl; exact rfl; exact rfl; intro _ _) | (apply TL_alloc; exact rfl; intro _ _) | (apply TL_buildSlice; exact rfl; exact rfl; exact rfl; exact rfl; exact rfl; intro _ _))
      exact TQ_ret2 Tryd.results11 (RV.tmp rfl) (RV.tmp rfl) (fun w' hs => ⟨(none, 0, []), Row.nil _ _ _, rfl, hs.sub (List.nil_sublist _)⟩)
    · have e : heightsF S = ([], 10) := by unfold heightsF; rw [if_pos hS]
      rw [e, if_pos hS]
      repeat' (first | refine rn ?_ | (apply TL_box; exact rfl; exact rfl; exact rfl; intro _ _) | (apply TL_alloc; exact rfl; intro _ _) | (apply TL_buildSlice; exact rfl; exact rfl; exact rfl; exact rfl; exact rfl; intro _ _))
      exact TQ_ret2 Tryd.results11 (RV.tmp rfl) (RV.tmp rfl) (fun w' hs => ⟨(none, 0, []), Row.nil _ _ _, rfl, hs.sub (List.nil_sublist _)⟩)
theorem c18 (S : Sv) (p : Pl) (a b : Int) (h1 : S.shots.length ≤ 1000000) (h2 : S.marks.length ≤ 1000000) (h3 : S.thr.length ≤ 1000000) (w : World) (ha : SvAt w S p) :
    Calls Tryd.prog 5 #[.agg (encSv S p).toArray, .int .i64 a, .int .i64 b] w (RetV w (.tuple #[.agg (encSp (fallF S a b).1).toArray, .int .i64 (fallF S a b).2])) := by
  refine enter (args := [.agg (encSv S p).toArray, .int .i64 a, .int .i64 b]) Tryd.func5 rfl Tryd.ntmps5 rfl (SH.refl _) ?_
  repeat' (first | refine rn ?_ | (apply TL_box; exact rfl; exact rfl; exact rfl; intro _ _) | (apply TL_alloc; exact rfl; intro _ _) | (apply TL_buildSlice; exact rfl; exact rfl; exact rfl; exact rfl; exact rfl; intro _ _))
  rename_i b3 _ b6 _
  by_cases hS : OkSv S
  rotate_left
  · refine TL_callV rfl rfl rfl (fun w hh => c44_no S p h1 h2 h3 w (ha.mono hh) (fun h => hS h.1)) ?_
    have e : fallF S a b = ((0, 0), 10) := by unfold fallF; rw [if_pos hS]
    rw [e, if_pos hS]
    repeat' (first | refine rn ?_ | (apply TL_box; exact rfl; exact rfl; exact rfl; intro _ _) | (apply TL_alloc; exact rfl; intro _ _) | (apply TL_buildSlice; exact rfl; exact rfl; exact rfl; exact rfl; exact rfl; intro _ _))
    exact TQ_ret2 Tryd.results5 (RV.celln rfl mm (by rfl)) (RV.tmp rfl) (fun w' hs => ⟨rfl, hs.below⟩)
  have hp := hS.1
  simp only [In] at hp
  cases hok : okS S with
  | false =>
    refine TL_callV rfl rfl rfl (fun w hh => c44_no S p h1 h2 h3 w (ha.mono hh) (fun h => by rw [hok] at h; cases h.2)) ?_
    rw [if_neg (not_not_intro hS)]
    repeat' (first | refine rn ?_ | (apply TL_box; exact rfl; exact rfl; exact rfl; intro _ _) | (apply TL_alloc; exact rfl; intro _ _) | (apply TL_buildSlice; exact rfl; exact rfl; exact rfl; exact rfl; exact rfl; intro _ _))
    refine TL_callV rfl rfl rfl (fun w h => c48 0 (S.pts - 1) [a, b] _ 2 (by simp) w (Sl.of_blk h mm (fun y _ => rfl) ⟨[], rfl⟩)) ?_
    by_cases hin : In a 0 (S.pts - 1) ∧ In b 0 (S.pts - 1)
    · have e : fallF S a b = ((0, 0), 11) := by unfold fallF; rw [if_neg (not_not_intro hS), if_neg (not_not_intro hin), if_neg (by rw [hok]; simp)]
      have hd : ∀ x ∈ [a, b], In x 0 (S.pts - 1) := by simpa using hin
      rw [e, decide_eq_true hd]
      repeat' (first | refine rn ?_ | (apply TL_box; exact rfl; exact rfl; exact rfl; intro _ _) | (apply TL_alloc; exact rfl; intro _ _) | (apply TL_buildSlice; exact rfl; exact rfl; exact rfl; exact rfl; exact rfl; intro _ _))
      exact TQ_ret2 Tryd.results5 (RV.celln rfl mm (by rfl)) (RV.tmp rfl) (fun w' hs => ⟨rfl, hs.below⟩)
    · have e : fallF S a b = ((0, 0), 2) := by unfold fallF; rw [if_neg (not_not_intro hS), if_pos hin]
      have hd : ¬ ∀ x ∈ [a, b], In x 0 (S.pts - 1) := fun h => hin ⟨h a (by simp), h b (by simp)⟩
      rw [e, decide_eq_false hd]
      repeat' (first | refine rn ?_ | (apply TL_box; exact rfl; exact rfl; exact rfl; intro _ _) | (apply TL_alloc; exact rfl; intro _ _) | (apply TL_buildSlice; exact rfl; exact rfl; exact rfl; exact rfl; exact rfl; intro _ _))
      exact TQ_ret2 Tryd.results5 (RV.celln rfl mm (by rfl)) (RV.tmp rfl) (fun w' hs => ⟨rfl, hs.below⟩)
  | true =>
    refine TL_callN rfl rfl rfl (fun w h => c44_ok S p hS hok w (ha.mono h)) ?_
    rintro bt -
    repeat' (first | refine rn ?_ | (apply TL_box; exact rfl; exact rfl; exact rfl; intro _ _) | (apply TL_alloc; exact rfl; intro _ _) | (apply TL_buildSlice; exact rfl; exact rfl; exact rfl; exact rfl; exact rfl; intro _ _))
    refine TL_callV rfl rfl rfl (fun w h => c48 0 (S.pts - 1) [a, b] _ 2 (by simp) w (Sl.of_blk h mm (fun y _ => rfl) ⟨[], rfl⟩)) ?_
    by_cases hin : In a 0 (S.pts - 1) ∧ In b 0 (S.pts - 1)
    · have e : fallF S a b = (fallR (tbl S) a.toNat b.toNat, 0) := by unfold fallF; rw [if_neg (not_not_intro hS), if_neg (not_not_intro hin), if_pos hok]
      have hd : ∀ x ∈ [a, b], In x 0 (S.pts - 1) := by simpa using hin
      rw [e, decide_eq_true hd]
      have hin' := hin
      simp only [In] at hin'
      have hB := tbl_B hS hok (i := a.toNat) (k := b.toNat) (by omega) (by omega)
      repeat' (first | refine rn ?_ | (apply TL_box; exact rfl; exact rfl; exact rfl; intro _ _) | (apply TL_alloc; exact rfl; intro _ _) | (apply TL_buildSlice; exact rfl; exact rfl; exact rfl; exact rfl; exact rfl; intro _ _))
      refine TL_call rfl rfl rfl _ _ _ (fun w h => c45 (tbl S) a b (by omega) (by omega) (by omega) bt _ mm w h) (fun _ _ => ?_)
      repeat' (first | refine rn ?_ | (apply TL_box; exact rfl; exact rfl; exact rfl; intro _ _) | (apply TL_alloc; exact rfl; intro _ _) | (apply TL_buildSlice; exact rfl; exact rfl; exact rfl; exact rfl; exact rfl; intro _ _))
      exact TQ_ret2 Tryd.results5 (RV.celln rfl mm (by rfl)) (RV.tmp rfl) (fun w' hs => ⟨rfl, hs.below⟩)
    · have e : fallF S a b = ((0, 0), 2) := by unfold fallF; rw [if_neg (not_not_intro hS), if_pos hin]
      have hd : ¬ ∀ x ∈ [a, b], In x 0 (S.pts - 1) := fun h => hin ⟨h a (by simp), h b (by simp)⟩
      rw [e, decide_eq_false hd]
      repeat' (first | refine rn ?_ | (apply TL_box; exact rfl; exact rfl; exact rfl; intro _ _) | (apply TL_alloc; exact rfl; intro _ _) | (apply TL_buildSlice; exact rfl; exact rfl; exact rfl; exact rfl; exact rfl; intro _ _))
      exact TQ_ret2 Tryd.results5 (RV.celln rfl mm (by rfl)) (RV.tmp rfl) (fun w' hs => ⟨rfl, hs.below⟩)
end Go.Proofs.YtoolblbdmmiahaaDoor
