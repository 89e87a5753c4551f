/- The walk of the statement LevelLeast. -/
import Derived.Test.YtoolblbdmmiahaaL23
import Derived.Test.YtoolblbdmmiahaaL32
namespace Go.Proofs.Ytoolblbdmmiahaa
open Go Go.Eng Go.RowKit Go.Proofs
set_option maxHeartbeats 4000000
set_option maxRecDepth 10000
attribute [local irreducible] TL TC TQ

def clipSh (w : Int) (_ : Nat) (x : Sh) : Sh := { x with rise := clip x.rise w 20000000 }
def clipMk (w : Int) (_ : Nat) (x : Mk) : Mk := { x with ht := clip x.ht w 10000000 }
theorem mapIdx_const {α β : Type} (g : α → β) (l : List α) : l.mapIdx (fun _ x => g x) = l.map g := by
  apply List.ext_getElem?; intro i; simp
theorem clip_sh (S : Sv) (w : Int) : S.shots.mapIdx (clipSh w) = (clipS S w).shots := mapIdx_const _ _
theorem clip_mk (S : Sv) (w : Int) : S.marks.mapIdx (clipMk w) = (clipS S w).marks := mapIdx_const _ _
theorem encSv_clip (S : Sv) (w : Int) (p : Pl) : encSv (clipS S w) p = encSv S p := by simp [encSv, clipS]
theorem c43 (S : Sv) (hS : OkSv S) (p : Pl) (wd : Int) (hw : 0 ≤ wd ∧ wd ≤ 40000000) (w : World) (ha : SvAt w S p) :
    Calls Try.prog 43 #[.agg (encSv S p).toArray, .int .i64 wd] w (RetV w (.bool (okS (clipS S wd)))) := by
  have hl1 := hS.2.1
  have hl2 := hS.2.2.1
  have hl3 := hS.2.2.2.1
  refine enter (args := [.agg (encSv S p).toArray, .int .i64 wd]) Try.func43 rfl Try.ntmps43 rfl (SH.refl _) ?_
  repeat' (first | refine rn ?_ | (apply TL_box; exact rfl; exact rfl; exact rfl; intro _ _) | (apply TL_alloc; exact rfl; intro _ _) | (apply TL_buildSlice; exact rfl; exact rfl; exact rfl; exact rfl; exact rfl; intro _ _))
  rename_i b2 _
  refine TL_callN rfl rfl rfl (fun w h => c15 S p (by omega) (by omega) (by omega) w (ha.mono h)) ?_
  rintro z hz
  change TL _ _ _ _ _ _ _ _ _ _ _
  repeat' (first | refine rn ?_ | (apply TL_box; exact rfl; exact rfl; exact rfl; intro _ _) | (apply TL_alloc; exact rfl; intro _ _) | (apply TL_buildSlice; exact rfl; exact rfl; exact rfl; exact rfl; exact rfl; intro _ _))
  rename_i b5 _
  refine TC_loop (σ := Nat × Hp) (fun q => q.1 ≤ S.shots.length ∧ RowE 78 4 encSh z.p.a1 z.p.c1 q.2 (mapTo (clipSh wd) S.shots q.1)) (fun q => [(1, .int .i64 wd), (5, .pointer (some ⟨b5, 0, none⟩)), (16, .int .i64 S.shots.length), (17, .int .i64 (q.1 : Int))])
    (fun q => (b5, .cells (encSv S z.p) 26) :: (z.o3 ++ (z.o2 ++ (q.2 ++ ([(b2, .cells (encSv S p) 26)] : Hp))))) (fun q => S.shots.length - q.1) (0, z.o1) ⟨Nat.zero_le _, by rw [mapTo_zero]; exact hz.r1⟩ sb (fun w h => by have h' : SH _ _ _ ((b5, .cells (encSv S z.p) 26) :: (z.hp ++ ([(b2, .cells (encSv S p) 26)] : Hp))) := h; simpa only [Tw.hp, List.append_assoc] using h') (fun q hq => ?_)
  obtain ⟨k, o1⟩ := q
  obtain ⟨hk, hr1⟩ := hq
  dsimp only at hk hr1 ⊢
  have hm1 := mapTo_len (clipSh wd) S.shots k
  repeat' (first | refine rn ?_ | (apply TL_box; exact rfl; exact rfl; exact rfl; intro _ _) | (apply TL_alloc; exact rfl; intro _ _) | (apply TL_buildSlice; exact rfl; exact rfl; exact rfl; exact rfl; exact rfl; intro _ _))
  refine TC_cond_dec rfl (fun g2 => ?_) (fun g2 => ?_)
  · have hlt : k < S.shots.length := by omega
    obtain ⟨x, hx⟩ : ∃ x, S.shots[k]? = some x := ⟨_, List.getElem?_eq_getElem hlt⟩
    have hx1 := mapTo_here (clipSh wd) S.shots hx
    have hs1 := mapTo_set (clipSh wd) S.shots hx
    have hne : mapTo (clipSh wd) S.shots k ≠ [] := fun h => by rw [h] at hx1; simp at hx1
    obtain ⟨_, hox⟩ := hS.2.2.2.2.1 x (List.mem_of_getElem? hx)
    simp only [Ord] at hox
    repeat' (first | refine rn ?_ | (apply TL_box; exact rfl; exact rfl; exact rfl; intro _ _) | (apply TL_alloc; exact rfl; intro _ _) | (apply TL_buildSlice; exact rfl; exact rfl; exact rfl; exact rfl; exact rfl; intro _ _))
    refine TL_index k rfl rfl rfl (fun w h => hr1.sl h (fun x hx => by simp only [List.mem_append, List.mem_cons, hx, true_or, or_true])) rfl (by omega) (by omega) ?_
    refine TL_fieldAddr_el rfl rfl (fun w h => hr1.sl h (fun x hx => by simp only [List.mem_append, List.mem_cons, hx, true_or, or_true])) hne ?_
    repeat' (first | refine rn ?_ | (apply TL_box; exact rfl; exact rfl; exact rfl; intro _ _) | (apply TL_alloc; exact rfl; intro _ _) | (apply TL_buildSlice; exact rfl; exact rfl; exact rfl; exact rfl; exact rfl; intro _ _))
    apply TC_draw 16; kernel_rfl; exact Try.mixed
    · iterate 2 (refine' pv ?_; rotate_left)
      (refine' PG.val rfl rfl (by intro _X; refine TL_nilCheck rfl rfl ?_; exact qe) ?_; rotate_left)
      (refine' PG.val rfl rfl (by intro _X; refine TL_fieldAddr_el rfl rfl (fun w h => hr1.sl h (fun x hx => by simp only [List.mem_append, List.mem_cons, hx, true_or, or_true])) hne ?_; exact qe) ?_; rotate_left)
      (refine' PG.val rfl rfl (by intro _X; refine TL_load_el1 (u := x) rfl rfl (fun w h => hr1.sl h (fun x hx => by simp only [List.mem_append, List.mem_cons, hx, true_or, or_true])) hx1 rfl ?_; exact qe) ?_; rotate_left)
      iterate 4 (refine' pv ?_; rotate_left)
      (refine' PG.val rfl rfl (by intro _X; refine TL_nilCheck rfl rfl ?_; exact qe) ?_; rotate_left)
      (refine' PG.val rfl rfl (by intro _X; refine TL_fieldAddr_el rfl rfl (fun w h => hr1.sl h (fun x hx => by simp only [List.mem_append, List.mem_cons, hx, true_or, or_true])) hne ?_; exact qe) ?_; rotate_left)
      (refine' PG.val rfl rfl (by intro _X; refine TL_load_el1 (u := x) rfl rfl (fun w h => hr1.sl h (fun x hx => by simp only [List.mem_append, List.mem_cons, hx, true_or, or_true])) hx1 rfl ?_; exact qe) ?_; rotate_left)
      iterate 3 (refine' pv ?_; rotate_left)
      (refine' PG.val rfl rfl (by intro _X; refine TL_callV rfl rfl rfl (fun w _ => c39 (max (x.rise.1 - wd) (-20000000)) (min (x.rise.2 + wd) 20000000) w) ?_; exact qe) ?_; rotate_left)
      exact PG.nil
    change TL _ _ _ _ _ _ _ _ _ _ _
    refine TL_nilCheck rfl rfl ?_
    refine TL_store_el (u := x) (u' := clipSh wd k x) (f := fun y => (b5, .cells (encSv S z.p) 26) :: (z.o3 ++ (z.o2 ++ (y ++ ([(b2, .cells (encSv S p) 26)] : Hp))))) (hr1.row hne) rfl rfl rfl rfl rfl rfl hx1 rfl rfl (fun _ _ _ => up) (fun o1' hr1' => ?_)
    rw [hs1] at hr1'
    repeat' (first | refine rn ?_ | (apply TL_box; exact rfl; exact rfl; exact rfl; intro _ _) | (apply TL_alloc; exact rfl; intro _ _) | (apply TL_buildSlice; exact rfl; exact rfl; exact rfl; exact rfl; exact rfl; intro _ _))
    refine TQ_round (k + 1, o1') ⟨by dsimp only; omega, .inl hr1'⟩ (by dsimp only; omega) sb (fun w h => h)
  have hk' : k = S.shots.length := by omega
  subst hk'
  rw [mapTo_all _ _ (Nat.le_refl _), clip_sh] at hr1
  clear hm1
  repeat' (first | refine rn ?_ | (apply TL_box; exact rfl; exact rfl; exact rfl; intro _ _) | (apply TL_alloc; exact rfl; intro _ _) | (apply TL_buildSlice; exact rfl; exact rfl; exact rfl; exact rfl; exact rfl; intro _ _))
  refine TC_loop (σ := Nat × Hp) (fun q => q.1 ≤ S.marks.length ∧ RowE 75 3 encMk z.p.a2 z.p.c2 q.2 (mapTo (clipMk wd) S.marks q.1)) (fun q => [(1, .int .i64 wd), (5, .pointer (some ⟨b5, 0, none⟩)), (45, .int .i64 S.marks.length), (46, .int .i64 (q.1 : Int))])
    (fun q => (b5, .cells (encSv S z.p) 26) :: (z.o3 ++ (q.2 ++ (o1 ++ ([(b2, .cells (encSv S p) 26)] : Hp))))) (fun q => S.marks.length - q.1) (0, z.o2) ⟨Nat.zero_le _, by rw [mapTo_zero]; exact hz.r2⟩ sb (fun w h => h) (fun q hq => ?_)
  obtain ⟨k, o2⟩ := q
  obtain ⟨hk, hr2⟩ := hq
  dsimp only at hk hr2 ⊢
  have hm1 := mapTo_len (clipMk wd) S.marks k
  repeat' (first | refine rn ?_ | (apply TL_box; exact rfl; exact rfl; exact rfl; intro _ _) | (apply TL_alloc; exact rfl; intro _ _) | (apply TL_buildSlice; exact rfl; exact rfl; exact rfl; exact rfl; exact rfl; intro _ _))
  refine TC_cond_dec rfl (fun g2 => ?_) (fun g2 => ?_)
  · have hlt : k < S.marks.length := by omega
    obtain ⟨x, hx⟩ : ∃ x, S.marks[k]? = some x := ⟨_, List.getElem?_eq_getElem hlt⟩
    have hx1 := mapTo_here (clipMk wd) S.marks hx
    have hs1 := mapTo_set (clipMk wd) S.marks hx
    have hne : mapTo (clipMk wd) S.marks k ≠ [] := fun h => by rw [h] at hx1; simp at hx1
    obtain ⟨_, hox⟩ := hS.2.2.2.2.2.1 x (List.mem_of_getElem? hx)
    simp only [Ord] at hox
    repeat' (first | refine rn ?_ | (apply TL_box; exact rfl; exact rfl; exact rfl; intro _ _) | (apply TL_alloc; exact rfl; intro _ _) | (apply TL_buildSlice; exact rfl; exact rfl; exact rfl; exact rfl; exact rfl; intro _ _))
    refine TL_index k rfl rfl rfl (fun w h => hr2.sl h (fun x hx => by simp only [List.mem_append, List.mem_cons, hx, true_or, or_true])) rfl (by omega) (by omega) ?_
    refine TL_fieldAddr_el rfl rfl (fun w h => hr2.sl h (fun x hx => by simp only [List.mem_append, List.mem_cons, hx, true_or, or_true])) hne ?_
    repeat' (first | refine rn ?_ | (apply TL_box; exact rfl; exact rfl; exact rfl; intro _ _) | (apply TL_alloc; exact rfl; intro _ _) | (apply TL_buildSlice; exact rfl; exact rfl; exact rfl; exact rfl; exact rfl; intro _ _))
    apply TC_draw 16; kernel_rfl; exact Try.mixed
    · iterate 2 (refine' pv ?_; rotate_left)
      (refine' PG.val rfl rfl (by intro _X; refine TL_nilCheck rfl rfl ?_; exact qe) ?_; rotate_left)
      (refine' PG.val rfl rfl (by intro _X; refine TL_fieldAddr_el rfl rfl (fun w h => hr2.sl h (fun x hx => by simp only [List.mem_append, List.mem_cons, hx, true_or, or_true])) hne ?_; exact qe) ?_; rotate_left)
      (refine' PG.val rfl rfl (by intro _X; refine TL_load_el1 (u := x) rfl rfl (fun w h => hr2.sl h (fun x hx => by simp only [List.mem_append, List.mem_cons, hx, true_or, or_true])) hx1 rfl ?_; exact qe) ?_; rotate_left)
      iterate 4 (refine' pv ?_; rotate_left)
      (refine' PG.val rfl rfl (by intro _X; refine TL_nilCheck rfl rfl ?_; exact qe) ?_; rotate_left)
      (refine' PG.val rfl rfl (by intro _X; refine TL_fieldAddr_el rfl rfl (fun w h => hr2.sl h (fun x hx => by simp only [List.mem_append, List.mem_cons, hx, true_or, or_true])) hne ?_; exact qe) ?_; rotate_left)
      (refine' PG.val rfl rfl (by intro _X; refine TL_load_el1 (u := x) rfl rfl (fun w h => hr2.sl h (fun x hx => by simp only [List.mem_append, List.mem_cons, hx, true_or, or_true])) hx1 rfl ?_; exact qe) ?_; rotate_left)
      iterate 3 (refine' pv ?_; rotate_left)
      (refine' PG.val rfl rfl (by intro _X; refine TL_callV rfl rfl rfl (fun w _ => c39 (max (x.ht.1 - wd) (-10000000)) (min (x.ht.2 + wd) 10000000) w) ?_; exact qe) ?_; rotate_left)
      exact PG.nil
    change TL _ _ _ _ _ _ _ _ _ _ _
    refine TL_nilCheck rfl rfl ?_
    refine TL_store_el (u := x) (u' := clipMk wd k x) (f := fun y => (b5, .cells (encSv S z.p) 26) :: (z.o3 ++ (y ++ (o1 ++ ([(b2, .cells (encSv S p) 26)] : Hp))))) (hr2.row hne) rfl rfl rfl rfl rfl rfl hx1 rfl rfl (fun _ _ _ => up) (fun o2' hr2' => ?_)
    rw [hs1] at hr2'
    repeat' (first | refine rn ?_ | (apply TL_box; exact rfl; exact rfl; exact rfl; intro _ _) | (apply TL_alloc; exact rfl; intro _ _) | (apply TL_buildSlice; exact rfl; exact rfl; exact rfl; exact rfl; exact rfl; intro _ _))
    refine TQ_round (k + 1, o2') ⟨by dsimp only; omega, .inl hr2'⟩ (by dsimp only; omega) sb (fun w h => h)
  have hk' : k = S.marks.length := by omega
  subst hk'
  rw [mapTo_all _ _ (Nat.le_refl _), clip_mk] at hr2
  have hC := clip_ok hS hw.1
  have c16' := fun w h => c16 (clipS S wd) z.p (by have := hC.2.1; omega) (by have := hC.2.2.1; omega) (by have := hC.2.2.2.1; omega) w h
  rw [encSv_clip] at c16'
  repeat' (first | refine rn ?_ | (apply TL_box; exact rfl; exact rfl; exact rfl; intro _ _) | (apply TL_alloc; exact rfl; intro _ _) | (apply TL_buildSlice; exact rfl; exact rfl; exact rfl; exact rfl; exact rfl; intro _ _))
  cases ok : okS (clipS S wd) with
  | true =>
    rw [heightsF_ok hC ok] at c16'
    refine TL_callN rfl rfl rfl (fun w h => c16' w ⟨hr1.sl h (fun x hx => by simp only [List.mem_append, List.mem_cons, hx, true_or, or_true]), hr2.sl h (fun x hx => by simp only [List.mem_append, List.mem_cons, hx, true_or, or_true]), hz.r3.sl h (fun x hx => by simp only [List.mem_append, List.mem_cons, hx, true_or, or_true])⟩) ?_
    rintro ⟨so5, sc5, ob5⟩ hrow5
    change TL _ _ _ _ _ _ _ _ _ _ _
    dsimp only
    repeat' (first | (refine TL_eql_same rfl rfl rfl ?_) | refine r1 ?_ | (apply TL_box; exact rfl; exact rfl; exact rfl; intro _ _) | (apply TL_alloc; exact rfl; intro _ _) | (apply TL_buildSlice; exact rfl; exact rfl; exact rfl; exact rfl; exact rfl; intro _ _))
    exact TQ_ret1 Try.results43 (RV.tmp rfl) (fun w' hs => ⟨rfl, hs.below⟩)
  | false =>
    rw [heightsF_no hC ok] at c16'
    refine TL_callN rfl rfl rfl (fun w h => c16' w ⟨hr1.sl h (fun x hx => by simp only [List.mem_append, List.mem_cons, hx, true_or, or_true]), hr2.sl h (fun x hx => by simp only [List.mem_append, List.mem_cons, hx, true_or, or_true]), hz.r3.sl h (fun x hx => by simp only [List.mem_append, List.mem_cons, hx, true_or, or_true])⟩) ?_
    rintro ⟨so5, sc5, ob5⟩ hrow5
    change TL _ _ _ _ _ _ _ _ _ _ _
    dsimp only
    repeat' (first | refine rn ?_ | (apply TL_box; exact rfl; exact rfl; exact rfl; intro _ _) | (apply TL_alloc; exact rfl; intro _ _) | (apply TL_buildSlice; exact rfl; exact rfl; exact rfl; exact rfl; exact rfl; intro _ _))
    exact TQ_ret1 Try.results43 (RV.tmp rfl) (fun w' hs => ⟨rfl, hs.below⟩)
/-- Shots of a true survey, each wrong by m at most. -/
def wrongN (m : Int) (l : List Int) (i : Nat) : Int := partN (2 * m) l ((i : Int) + 2) - m
def wrongSh (m : Int) (l : List Int) (i : Nat) (x : Sh) : Sh := { x with rise := (x.rise.1 + wrongN m l i, x.rise.2 + wrongN m l i) }
def wrongS (S : Sv) (m : Int) (l : List Int) : Sv := { truthS S l with shots := (truthS S l).shots.mapIdx (wrongSh m l) }
theorem encSv_wrong (S : Sv) (m : Int) (l : List Int) (p : Pl) : encSv (wrongS S m l) p = encSv S p := by simp [encSv, wrongS, truthS]
theorem truth_rise {S : Sv} (hS : OkSv S) (l : List Int) : ∀ x ∈ (truthS S l).shots, -3000 ≤ x.rise.1 ∧ x.rise.2 ≤ 3000 := by
  intro x hx
  obtain ⟨i, hi⟩ := List.getElem?_of_mem hx
  simp only [truthS, List.getElem?_mapIdx, Option.map_eq_some_iff] at hi
  obtain ⟨y, hy, rfl⟩ := hi
  have p1 := partN_rg (n := 40) (by omega) l ((i : Int) + 3)
  have p2 := partN_rg (n := 40) (by omega) l ((i : Int) + 5)
  have p3 := trueH_B l y.to
  have p4 := trueH_B l y.fr
  simp only [trueSh]; omega
theorem wrong_rg {m : Int} (hm : 0 ≤ m) (l : List Int) (i : Nat) : -m ≤ wrongN m l i ∧ wrongN m l i ≤ m := by
  have := partN_rg (n := 2 * m) (by omega) l ((i : Int) + 2)
  unfold wrongN; omega
theorem wrong_ok {S : Sv} (hS : OkSv S) {m : Int} (hm : 0 ≤ m ∧ m ≤ 255) (l : List Int) : OkSv (wrongS S m l) ∧ FitsAll (wrongS S m l) none_ m (hts S l) := by
  obtain ⟨hT, hF⟩ := truth_ok hS l
  have hR := truth_rise hS l
  constructor
  · obtain ⟨h1, h2, h3, h4, h5, h6, h7⟩ := hT
    refine ⟨h1, by simpa [wrongS] using h2, h3, h4, fun x hx => ?_, h6, h7⟩
    obtain ⟨i, hi⟩ := List.getElem?_of_mem hx
    simp only [wrongS, List.getElem?_mapIdx, Option.map_eq_some_iff] at hi
    obtain ⟨y, hy, rfl⟩ := hi
    have hy1 := h5 y (List.mem_of_getElem? hy)
    have hy2 := hR y (List.mem_of_getElem? hy)
    have hy3 := wrong_rg hm.1 l i
    refine ⟨hy1.1, ?_⟩
    have := hy1.2
    simp only [Ord, wrongSh] at *; omega
  · refine ⟨hF.base, fun i x hx _ => ?_⟩
    rcases List.mem_append.1 (List.mem_of_getElem? hx) with h | h
    · obtain ⟨y, hy, rfl⟩ := List.mem_map.1 h
      obtain ⟨j, hj⟩ := List.getElem?_of_mem hy
      simp only [wrongS, List.getElem?_mapIdx, Option.map_eq_some_iff] at hj
      obtain ⟨u, hu, rfl⟩ := hj
      have h1 := hF.shots u (List.mem_of_getElem? hu)
      have h3 := wrong_rg hm.1 l j
      simp only [Fits, wrongSh]; omega
    · obtain ⟨y, hy, rfl⟩ := List.mem_map.1 h
      have h1 := hF.marks y hy
      have e : (wrongS S m l).pts = (truthS S l).pts := rfl
      simp only [Fits, e]; omega
theorem c10 (S : Sv) (p : Pl) (l : List Int) (lo : Option Addr) (lc : Nat) (m : Int) (gm : 0 ≤ m ∧ m ≤ 255) (h1 : S.shots.length ≤ 9223372036854775807) (h2 : S.marks.length ≤ 9223372036854775807) (h3 : S.thr.length ≤ 9223372036854775807) (h4 : l.length ≤ 9223372036854775807) (w : World) (ha : SvAt w S p) (hb : Sl w 1 encI lo l) :
    Calls Try.prog 10 #[.agg (encSv S p).toArray, .slice lo l.length lc, .int .u8 m] w (RetV w (.bool true)) := by
  refine enter (args := [.agg (encSv S p).toArray, .slice lo l.length lc, .int .u8 m]) Try.func10 rfl Try.ntmps10 rfl (SH.refl _) ?_
  repeat' (first | refine rn ?_ | (apply TL_box; exact rfl; exact rfl; exact rfl; intro _ _) | (apply TL_alloc; exact rfl; intro _ _) | (apply TL_buildSlice; exact rfl; exact rfl; exact rfl; exact rfl; exact rfl; intro _ _))
  rename_i b3 _
  refine TL_callV rfl rfl rfl (fun w _ => c35 w) ?_
  repeat' (first | refine rn ?_ | (apply TL_box; exact rfl; exact rfl; exact rfl; intro _ _) | (apply TL_alloc; exact rfl; intro _ _) | (apply TL_buildSlice; exact rfl; exact rfl; exact rfl; exact rfl; exact rfl; intro _ _))
  refine TL_callV rfl rfl rfl (fun w h => c36 S p h1 h2 h3 w (ha.mono h)) ?_
  by_cases hS : OkSv S
  rotate_left
  · rw [decide_eq_false hS]
    repeat' (first | refine rn ?_ | (apply TL_box; exact rfl; exact rfl; exact rfl; intro _ _) | (apply TL_alloc; exact rfl; intro _ _) | (apply TL_buildSlice; exact rfl; exact rfl; exact rfl; exact rfl; exact rfl; intro _ _))
    exact TQ_ret1 Try.results10 (RV.tmp rfl) (fun w' hs => ⟨rfl, hs.below⟩)
  rw [decide_eq_true hS]
  have hl1 := hS.2.1
  have hl2 := hS.2.2.1
  have hl3 := hS.2.2.2.1
  have c28' := fun w h => c28 S p (by omega) (by omega) (by omega) w h
  rw [widenF_ok hS] at c28'
  obtain ⟨_, q1, q2, _⟩ := widen_spec hS
  obtain ⟨q3, q4⟩ := least_fits hS
  generalize widenR S = v at *
  repeat' (first | refine rn ?_ | (apply TL_box; exact rfl; exact rfl; exact rfl; intro _ _) | (apply TL_alloc; exact rfl; intro _ _) | (apply TL_buildSlice; exact rfl; exact rfl; exact rfl; exact rfl; exact rfl; intro _ _))
  refine TL_callV rfl rfl rfl (fun w h => c28' w (ha.mono h)) ?_
  repeat' (first | (refine TL_lss_f rfl rfl rfl (by first | omega | (dsimp only; omega)) ?_) | (refine TL_gtr_f rfl rfl rfl (by first | omega | (dsimp only; omega)) ?_) | refine r1 ?_ | (apply TL_box; exact rfl; exact rfl; exact rfl; intro _ _) | (apply TL_alloc; exact rfl; intro _ _) | (apply TL_buildSlice; exact rfl; exact rfl; exact rfl; exact rfl; exact rfl; intro _ _))
  have f1 := c43 S hS p v ⟨q1, q2⟩
  rw [q3] at f1
  refine TL_callV rfl rfl rfl (fun w h => f1 w (ha.mono h)) ?_
  obtain ⟨hW, hWF⟩ := wrong_ok hS gm l
  have hWle := widen_le hW gm.1 hWF
  have hW0 := (widen_spec hW).2.1
  have hTl : (truthS S l).shots.length = S.shots.length := by simp [truthS]
  have c37' := fun w h1 h2 => c37 S hS p l lo lc h4 w h1 h2
  simp only [encSv_truth] at c37'
  by_cases hv : 0 < v
  · have f2 := c43 S hS p (v - 1) ⟨by omega, by omega⟩
    rw [q4 hv] at f2
    repeat' (first | (refine TL_gtr_t rfl rfl rfl (by first | omega | (dsimp only; omega)) ?_) | refine r1 ?_ | (apply TL_box; exact rfl; exact rfl; exact rfl; intro _ _) | (apply TL_alloc; exact rfl; intro _ _) | (apply TL_buildSlice; exact rfl; exact rfl; exact rfl; exact rfl; exact rfl; intro _ _))
    refine TL_callV rfl rfl rfl (fun w h => f2 w (ha.mono h)) ?_
    repeat' (first | refine rn ?_ | (apply TL_box; exact rfl; exact rfl; exact rfl; intro _ _) | (apply TL_alloc; exact rfl; intro _ _) | (apply TL_buildSlice; exact rfl; exact rfl; exact rfl; exact rfl; exact rfl; intro _ _))
    refine TL_callN rfl rfl rfl (fun w h => c37' w (ha.mono h) (h.sl hb)) ?_
    rintro ⟨⟨so, sc, obh⟩, z⟩ ⟨hrow, hz⟩
    change TL _ _ _ _ _ _ _ _ _ _ _
    dsimp only
    repeat' (first | refine rn ?_ | (apply TL_box; exact rfl; exact rfl; exact rfl; intro _ _) | (apply TL_alloc; exact rfl; intro _ _) | (apply TL_buildSlice; exact rfl; exact rfl; exact rfl; exact rfl; exact rfl; intro _ _))
    rename_i b12 _
    refine TC_loop (σ := Nat × Hp) (fun q => q.1 ≤ (truthS S l).shots.length ∧ RowE 78 4 encSh z.p.a1 z.p.c1 q.2 (mapTo (wrongSh m l) (truthS S l).shots q.1)) (fun q => [(1, .slice lo l.length lc), (2, .int .u8 m), (7, .bool true), (12, .pointer (some ⟨b12, 0, none⟩)), (64, .int .i64 S.shots.length), (65, .int .i64 (q.1 : Int))])
      (fun q => (b12, .cells (encSv S z.p) 26) :: (obh ++ (z.o3 ++ (z.o2 ++ (q.2 ++ ([(b3, .cells (encSv S p) 26)] : Hp)))))) (fun q => (truthS S l).shots.length - q.1) (0, z.o1) ⟨Nat.zero_le _, by rw [mapTo_zero]; exact hz.r1⟩ sb (fun w h => by have h' : SH _ _ _ ((b12, .cells (encSv S z.p) 26) :: ((obh ++ z.hp) ++ ([(b3, .cells (encSv S p) 26)] : Hp))) := h; simpa only [Tw.hp, List.append_assoc] using h') (fun q hq => ?_)
    obtain ⟨k, o1⟩ := q
    obtain ⟨hk, hr1⟩ := hq
    dsimp only at hk hr1 ⊢
    have hm1 := mapTo_len (wrongSh m l) (truthS S l).shots k
    repeat' (first | refine rn ?_ | (apply TL_box; exact rfl; exact rfl; exact rfl; intro _ _) | (apply TL_alloc; exact rfl; intro _ _) | (apply TL_buildSlice; exact rfl; exact rfl; exact rfl; exact rfl; exact rfl; intro _ _))
    refine TC_cond_dec rfl (fun g2 => ?_) (fun g2 => ?_)
    · have hlt : k < (truthS S l).shots.length := by omega
      obtain ⟨x, hx⟩ : ∃ x, (truthS S l).shots[k]? = some x := ⟨_, List.getElem?_eq_getElem hlt⟩
      have hx1 := mapTo_here (wrongSh m l) (truthS S l).shots hx
      have hs1 := mapTo_set (wrongSh m l) (truthS S l).shots hx
      have hne : mapTo (wrongSh m l) (truthS S l).shots k ≠ [] := fun h => by rw [h] at hx1; simp at hx1
      have hox := truth_rise hS l x (List.mem_of_getElem? hx)
      have hox2 := (truth_ok hS l).1.2.2.2.2.1 x (List.mem_of_getElem? hx)
      have hox3 := hox2.2
      simp only [Ord] at hox3
      have hpt := partN_rg (n := 2 * m) (by omega) l ((k : Int) + 2)
      repeat' (first | (refine TL_conv_same rfl rfl (wrap_i64_in gm.1 (by omega)) ?_) | refine r1 ?_ | (apply TL_box; exact rfl; exact rfl; exact rfl; intro _ _) | (apply TL_alloc; exact rfl; intro _ _) | (apply TL_buildSlice; exact rfl; exact rfl; exact rfl; exact rfl; exact rfl; intro _ _))
      refine TL_callV rfl rfl rfl (fun w h => c38 (2 * m) l ((k : Int) + 2) (by omega) (by omega) lo lc h4 w (h.sl hb)) ?_
      repeat' (first | (refine TL_conv_same rfl rfl (wrap_i64_in gm.1 (by omega)) ?_) | refine r1 ?_ | (apply TL_box; exact rfl; exact rfl; exact rfl; intro _ _) | (apply TL_alloc; exact rfl; intro _ _) | (apply TL_buildSlice; exact rfl; exact rfl; exact rfl; exact rfl; exact rfl; intro _ _))
      refine TL_index k rfl rfl rfl (fun w h => hr1.sl h (fun x hx => by simp only [List.mem_append, List.mem_cons, hx, true_or, or_true])) rfl (by omega) (by omega) ?_
      refine TL_fieldAddr_el rfl rfl (fun w h => hr1.sl h (fun x hx => by simp only [List.mem_append, List.mem_cons, hx, true_or, or_true])) hne ?_
      repeat' (first | refine rn ?_ | (apply TL_box; exact rfl; exact rfl; exact rfl; intro _ _) | (apply TL_alloc; exact rfl; intro _ _) | (apply TL_buildSlice; exact rfl; exact rfl; exact rfl; exact rfl; exact rfl; intro _ _))
      apply TC_draw 14; kernel_rfl; exact Try.mixed
      · iterate 2 (refine' pv ?_; rotate_left)
        (refine' PG.val rfl rfl (by intro _X; refine TL_nilCheck rfl rfl ?_; exact qe) ?_; rotate_left)
        (refine' PG.val rfl rfl (by intro _X; refine TL_fieldAddr_el rfl rfl (fun w h => hr1.sl h (fun x hx => by simp only [List.mem_append, List.mem_cons, hx, true_or, or_true])) hne ?_; exact qe) ?_; rotate_left)
        (refine' PG.val rfl rfl (by intro _X; refine TL_load_el1 (u := x) rfl rfl (fun w h => hr1.sl h (fun x hx => by simp only [List.mem_append, List.mem_cons, hx, true_or, or_true])) hx1 rfl ?_; exact qe) ?_; rotate_left)
        iterate 3 (refine' pv ?_; rotate_left)
        (refine' PG.val rfl rfl (by intro _X; refine TL_nilCheck rfl rfl ?_; exact qe) ?_; rotate_left)
        (refine' PG.val rfl rfl (by intro _X; refine TL_fieldAddr_el rfl rfl (fun w h => hr1.sl h (fun x hx => by simp only [List.mem_append, List.mem_cons, hx, true_or, or_true])) hne ?_; exact qe) ?_; rotate_left)
        (refine' PG.val rfl rfl (by intro _X; refine TL_load_el1 (u := x) rfl rfl (fun w h => hr1.sl h (fun x hx => by simp only [List.mem_append, List.mem_cons, hx, true_or, or_true])) hx1 rfl ?_; exact qe) ?_; rotate_left)
        iterate 2 (refine' pv ?_; rotate_left)
        (refine' PG.val rfl rfl (by intro _X; refine TL_callV rfl rfl rfl (fun w _ => c39 (x.rise.1 + (partN (2 * m) l ((k : Int) + 2) - m)) (x.rise.2 + (partN (2 * m) l ((k : Int) + 2) - m)) w) ?_; exact qe) ?_; rotate_left)
        exact PG.nil
      change TL _ _ _ _ _ _ _ _ _ _ _
      refine TL_nilCheck rfl rfl ?_
      refine TL_store_el (u := x) (u' := wrongSh m l k x) (f := fun y => (b12, .cells (encSv S z.p) 26) :: (obh ++ (z.o3 ++ (z.o2 ++ (y ++ ([(b3, .cells (encSv S p) 26)] : Hp)))))) (hr1.row hne) rfl rfl rfl rfl rfl rfl hx1 rfl rfl (fun _ _ _ => up) (fun o1' hr1' => ?_)
      rw [hs1] at hr1'
      repeat' (first | refine rn ?_ | (apply TL_box; exact rfl; exact rfl; exact rfl; intro _ _) | (apply TL_alloc; exact rfl; intro _ _) | (apply TL_buildSlice; exact rfl; exact rfl; exact rfl; exact rfl; exact rfl; intro _ _))
      refine TQ_round (k + 1, o1') ⟨by dsimp only; omega, .inl hr1'⟩ (by dsimp only; omega) sb (fun w h => h)
    have hk' : k = (truthS S l).shots.length := by omega
    subst hk'
    rw [mapTo_all _ _ (Nat.le_refl _)] at hr1
    have d28 := fun w h => c28 (wrongS S m l) z.p (by have := hW.2.1; omega) (by have := hW.2.2.1; omega) (by have := hW.2.2.2.1; omega) w h
    rw [encSv_wrong, widenF_ok hW] at d28
    repeat' (first | refine rn ?_ | (apply TL_box; exact rfl; exact rfl; exact rfl; intro _ _) | (apply TL_alloc; exact rfl; intro _ _) | (apply TL_buildSlice; exact rfl; exact rfl; exact rfl; exact rfl; exact rfl; intro _ _))
    refine TL_callV rfl rfl rfl (fun w h => d28 w ⟨hr1.sl h (fun x hx => by simp only [List.mem_append, List.mem_cons, hx, true_or, or_true]), hz.r2.sl h (fun x hx => by simp only [List.mem_append, List.mem_cons, hx, true_or, or_true]), hz.r3.sl h (fun x hx => by simp only [List.mem_append, List.mem_cons, hx, true_or, or_true])⟩) ?_
    repeat' (first | (refine TL_conv_same rfl rfl (wrap_i64_in gm.1 (by omega)) ?_) | (refine TL_eql_same rfl rfl rfl ?_) | (refine TL_geq_t rfl rfl rfl (by first | omega | (dsimp only; omega)) ?_) | (refine TL_leq_t rfl rfl rfl (by first | omega | (dsimp only; omega)) ?_) | refine r1 ?_ | (apply TL_box; exact rfl; exact rfl; exact rfl; intro _ _) | (apply TL_alloc; exact rfl; intro _ _) | (apply TL_buildSlice; exact rfl; exact rfl; exact rfl; exact rfl; exact rfl; intro _ _))
    exact TQ_ret1 Try.results10 (RV.tmp rfl) (fun w' hs => ⟨rfl, hs.below⟩)
  · repeat' (first | (refine TL_gtr_f rfl rfl rfl (by first | omega | (dsimp only; omega)) ?_) | refine r1 ?_ | (apply TL_box; exact rfl; exact rfl; exact rfl; intro _ _) | (apply TL_alloc; exact rfl; intro _ _) | (apply TL_buildSlice; exact rfl; exact rfl; exact rfl; exact rfl; exact rfl; intro _ _))
    refine TL_callN rfl rfl rfl (fun w h => c37' w (ha.mono h) (h.sl hb)) ?_
    rintro ⟨⟨so, sc, obh⟩, z⟩ ⟨hrow, hz⟩
    change TL _ _ _ _ _ _ _ _ _ _ _
    dsimp only
    repeat' (first | refine rn ?_ | (apply TL_box; exact rfl; exact rfl; exact rfl; intro _ _) | (apply TL_alloc; exact rfl; intro _ _) | (apply TL_buildSlice; exact rfl; exact rfl; exact rfl; exact rfl; exact rfl; intro _ _))
    rename_i b12 _
    refine TC_loop (σ := Nat × Hp) (fun q => q.1 ≤ (truthS S l).shots.length ∧ RowE 78 4 encSh z.p.a1 z.p.c1 q.2 (mapTo (wrongSh m l) (truthS S l).shots q.1)) (fun q => [(1, .slice lo l.length lc), (2, .int .u8 m), (7, .bool true), (12, .pointer (some ⟨b12, 0, none⟩)), (64, .int .i64 S.shots.length), (65, .int .i64 (q.1 : Int))])
      (fun q => (b12, .cells (encSv S z.p) 26) :: (obh ++ (z.o3 ++ (z.o2 ++ (q.2 ++ ([(b3, .cells (encSv S p) 26)] : Hp)))))) (fun q => (truthS S l).shots.length - q.1) (0, z.o1) ⟨Nat.zero_le _, by rw [mapTo_zero]; exact hz.r1⟩ sb (fun w h => by have h' : SH _ _ _ ((b12, .cells (encSv S z.p) 26) :: ((obh ++ z.hp) ++ ([(b3, .cells (encSv S p) 26)] : Hp))) := h; simpa only [Tw.hp, List.append_assoc] using h') (fun q hq => ?_)
    obtain ⟨k, o1⟩ := q
    obtain ⟨hk, hr1⟩ := hq
    dsimp only at hk hr1 ⊢
    have hm1 := mapTo_len (wrongSh m l) (truthS S l).shots k
    repeat' (first | refine rn ?_ | (apply TL_box; exact rfl; exact rfl; exact rfl; intro _ _) | (apply TL_alloc; exact rfl; intro _ _) | (apply TL_buildSlice; exact rfl; exact rfl; exact rfl; exact rfl; exact rfl; intro _ _))
    refine TC_cond_dec rfl (fun g2 => ?_) (fun g2 => ?_)
    · have hlt : k < (truthS S l).shots.length := by omega
      obtain ⟨x, hx⟩ : ∃ x, (truthS S l).shots[k]? = some x := ⟨_, List.getElem?_eq_getElem hlt⟩
      have hx1 := mapTo_here (wrongSh m l) (truthS S l).shots hx
      have hs1 := mapTo_set (wrongSh m l) (truthS S l).shots hx
      have hne : mapTo (wrongSh m l) (truthS S l).shots k ≠ [] := fun h => by rw [h] at hx1; simp at hx1
      have hox := truth_rise hS l x (List.mem_of_getElem? hx)
      have hox2 := (truth_ok hS l).1.2.2.2.2.1 x (List.mem_of_getElem? hx)
      have hox3 := hox2.2
      simp only [Ord] at hox3
      have hpt := partN_rg (n := 2 * m) (by omega) l ((k : Int) + 2)
      repeat' (first | (refine TL_conv_same rfl rfl (wrap_i64_in gm.1 (by omega)) ?_) | refine r1 ?_ | (apply TL_box; exact rfl; exact rfl; exact rfl; intro _ _) | (apply TL_alloc; exact rfl; intro _ _) | (apply TL_buildSlice; exact rfl; exact rfl; exact rfl; exact rfl; exact rfl; intro _ _))
      refine TL_callV rfl rfl rfl (fun w h => c38 (2 * m) l ((k : Int) + 2) (by omega) (by omega) lo lc h4 w (h.sl hb)) ?_
      repeat' (first | (refine TL_conv_same rfl rfl (wrap_i64_in gm.1 (by omega)) ?_) | refine r1 ?_ | (apply TL_box; exact rfl; exact rfl; exact rfl; intro _ _) | (apply TL_alloc; exact rfl; intro _ _) | (apply TL_buildSlice; exact rfl; exact rfl; exact rfl; exact rfl; exact rfl; intro _ _))
      refine TL_index k rfl rfl rfl (fun w h => hr1.sl h (fun x hx => by simp only [List.mem_append, List.mem_cons, hx, true_or, or_true])) rfl (by omega) (by omega) ?_
      refine TL_fieldAddr_el rfl rfl (fun w h => hr1.sl h (fun x hx => by simp only [List.mem_append, List.mem_cons, hx, true_or, or_true])) hne ?_
      repeat' (first | refine rn ?_ | (apply TL_box; exact rfl; exact rfl; exact rfl; intro _ _) | (apply TL_alloc; exact rfl; intro _ _) | (apply TL_buildSlice; exact rfl; exact rfl; exact rfl; exact rfl; exact rfl; intro _ _))
      apply TC_draw 14; kernel_rfl; exact Try.mixed
      · iterate 2 (refine' pv ?_; rotate_left)
        (refine' PG.val rfl rfl (by intro _X; refine TL_nilCheck rfl rfl ?_; exact qe) ?_; rotate_left)
        (refine' PG.val rfl rfl (by intro _X; refine TL_fieldAddr_el rfl rfl (fun w h => hr1.sl h (fun x hx => by simp only [List.mem_append, List.mem_cons, hx, true_or, or_true])) hne ?_; exact qe) ?_; rotate_left)
        (refine' PG.val rfl rfl (by intro _X; refine TL_load_el1 (u := x) rfl rfl (fun w h => hr1.sl h (fun x hx => by simp only [List.mem_append, List.mem_cons, hx, true_or, or_true])) hx1 rfl ?_; exact qe) ?_; rotate_left)
        iterate 3 (refine' pv ?_; rotate_left)
        (refine' PG.val rfl rfl (by intro _X; refine TL_nilCheck rfl rfl ?_; exact qe) ?_; rotate_left)
        (refine' PG.val rfl rfl (by intro _X; refine TL_fieldAddr_el rfl rfl (fun w h => hr1.sl h (fun x hx => by simp only [List.mem_append, List.mem_cons, hx, true_or, or_true])) hne ?_; exact qe) ?_; rotate_left)
        (refine' PG.val rfl rfl (by intro _X; refine TL_load_el1 (u := x) rfl rfl (fun w h => hr1.sl h (fun x hx => by simp only [List.mem_append, List.mem_cons, hx, true_or, or_true])) hx1 rfl ?_; exact qe) ?_; rotate_left)
        iterate 2 (refine' pv ?_; rotate_left)
        (refine' PG.val rfl rfl (by intro _X; refine TL_callV rfl rfl rfl (fun w _ => c39 (x.rise.1 + (partN (2 * m) l ((k : Int) + 2) - m)) (x.rise.2 + (partN (2 * m) l ((k : Int) + 2) - m)) w) ?_; exact qe) ?_; rotate_left)
        exact PG.nil
      change TL _ _ _ _ _ _ _ _ _ _ _
      refine TL_nilCheck rfl rfl ?_
      refine TL_store_el (u := x) (u' := wrongSh m l k x) (f := fun y => (b12, .cells (encSv S z.p) 26) :: (obh ++ (z.o3 ++ (z.o2 ++ (y ++ ([(b3, .cells (encSv S p) 26)] : Hp)))))) (hr1.row hne) rfl rfl rfl rfl rfl rfl hx1 rfl rfl (fun _ _ _ => up) (fun o1' hr1' => ?_)
      rw [hs1] at hr1'
      repeat' (first | refine rn ?_ | (apply TL_box; exact rfl; exact rfl; exact rfl; intro _ _) | (apply TL_alloc; exact rfl; intro _ _) | (apply TL_buildSlice; exact rfl; exact rfl; exact rfl; exact rfl; exact rfl; intro _ _))
      refine TQ_round (k + 1, o1') ⟨by dsimp only; omega, .inl hr1'⟩ (by dsimp only; omega) sb (fun w h => h)
    have hk' : k = (truthS S l).shots.length := by omega
    subst hk'
    rw [mapTo_all _ _ (Nat.le_refl _)] at hr1
    have d28 := fun w h => c28 (wrongS S m l) z.p (by have := hW.2.1; omega) (by have := hW.2.2.1; omega) (by have := hW.2.2.2.1; omega) w h
    rw [encSv_wrong, widenF_ok hW] at d28
    repeat' (first | refine rn ?_ | (apply TL_box; exact rfl; exact rfl; exact rfl; intro _ _) | (apply TL_alloc; exact rfl; intro _ _) | (apply TL_buildSlice; exact rfl; exact rfl; exact rfl; exact rfl; exact rfl; intro _ _))
    refine TL_callV rfl rfl rfl (fun w h => d28 w ⟨hr1.sl h (fun x hx => by simp only [List.mem_append, List.mem_cons, hx, true_or, or_true]), hz.r2.sl h (fun x hx => by simp only [List.mem_append, List.mem_cons, hx, true_or, or_true]), hz.r3.sl h (fun x hx => by simp only [List.mem_append, List.mem_cons, hx, true_or, or_true])⟩) ?_
    repeat' (first | (refine TL_conv_same rfl rfl (wrap_i64_in gm.1 (by omega)) ?_) | (refine TL_eql_same rfl rfl rfl ?_) | (refine TL_geq_t rfl rfl rfl (by first | omega | (dsimp only; omega)) ?_) | (refine TL_leq_t rfl rfl rfl (by first | omega | (dsimp only; omega)) ?_) | refine r1 ?_ | (apply TL_box; exact rfl; exact rfl; exact rfl; intro _ _) | (apply TL_alloc; exact rfl; intro _ _) | (apply TL_buildSlice; exact rfl; exact rfl; exact rfl; exact rfl; exact rfl; intro _ _))
    exact TQ_ret1 Try.results10 (RV.tmp rfl) (fun w' hs => ⟨rfl, hs.below⟩)
end Go.Proofs.Ytoolblbdmmiahaa
