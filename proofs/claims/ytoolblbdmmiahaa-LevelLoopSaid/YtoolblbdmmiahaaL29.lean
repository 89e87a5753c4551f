/- The walk of the statement LevelLoop. -/
import Derived.Test.YtoolblbdmmiahaaL28
import Derived.Test.YtoolblbdmmiahaaEngY
namespace Go.Proofs.Ytoolblbdmmiahaa
open Go Go.Eng Go.RowKit Go.Proofs
set_option maxHeartbeats 4000000
set_option maxRecDepth 10000
attribute [local irreducible] TL TC TQ

/-- The ways of the first k legs, there and back. -/
def wayF (l : List Int) (k : Nat) (x y : Int) : Bool := (List.range k).any (fun i => decide ((x = atR l i ∧ y = atR l (i + 1)) ∨ (x = atR l (i + 1) ∧ y = atR l i)))
theorem wayF_zero (l : List Int) : wayF l 0 = fun _ _ => false := rfl
theorem wayF_succ (l : List Int) (k : Nat) : padd (padd (wayF l k) (atR l k) (atR l (k + 1))) (atR l (k + 1)) (atR l k) = wayF l (k + 1) := by
  funext x y
  unfold wayF padd
  rw [List.range_succ, List.any_append, List.any_cons, List.any_nil, Bool.or_false, Bool.or_assoc]
  congr 1
  rw [Bool.eq_iff_iff]
  simp
theorem betw_way (l : List Int) (x : Sh) : betw l x = wayF l l.length x.fr x.to := rfl
theorem filt_succ {S : Sv} {l : List Int} {k : Nat} {x : Sh} (hx : S.shots[k]? = some x) : (S.shots.take (k + 1)).filter (betw l) = (S.shots.take k).filter (betw l) ++ (if betw l x = true then [x] else []) := by
  have e : S.shots.take (k + 1) = S.shots.take k ++ [x] := by rw [List.take_add_one, hx]; rfl
  rw [e, List.filter_append]
  congr 1
  rw [List.filter_cons, List.filter_nil]
theorem loopR_err {S : Sv} (hS : OkSv S) (l : List Int) : (loopR S l).2 = 0 ∨ (loopR S l).2 = 2 ∨ (loopR S l).2 = 6 ∨ (loopR S l).2 = 11 := by
  unfold loopR
  rw [if_neg (not_not_intro hS)]
  split
  · exact .inr (.inl rfl)
  · split
    · exact .inr (.inr (.inl rfl))
    · split
      · exact .inr (.inr (.inr rfl))
      · exact .inl rfl
theorem c9 (S : Sv) (p : Pl) (l : List Int) (lo : Option Addr) (lc : Nat) (h1 : S.shots.length ≤ 9223372036854775807) (h2 : S.marks.length ≤ 9223372036854775807) (h3 : S.thr.length ≤ 9223372036854775807) (h4 : l.length ≤ 9223372036854775807) (w : World) (ha : SvAt w S p) (hb : Sl w 1 encI lo l) :
    Calls Try.prog 9 #[.agg (encSv S p).toArray, .slice lo l.length lc] w (RetV w (.bool true)) := by
  refine enter (args := [.agg (encSv S p).toArray, .slice lo l.length lc]) Try.func9 rfl Try.ntmps9 rfl (SH.refl _) ?_
  repeat' (first | refine rn ?_ | (apply TL_box; exact rfl; exact rfl; exact rfl; intro _ _) | (apply TL_alloc; exact rfl; intro _ _) | (apply TL_buildSlice; exact rfl; exact rfl; exact rfl; exact rfl; exact rfl; intro _ _))
  rename_i b2 _
  refine TL_callV rfl rfl rfl (fun w _ => c35 w) ?_
  repeat' (first | refine rn ?_ | (apply TL_box; exact rfl; exact rfl; exact rfl; intro _ _) | (apply TL_alloc; exact rfl; intro _ _) | (apply TL_buildSlice; exact rfl; exact rfl; exact rfl; exact rfl; exact rfl; intro _ _))
  refine TL_callV rfl rfl rfl (fun w h => c36 S p h1 h2 h3 w (ha.mono h)) ?_
  by_cases hS : OkSv S
  rotate_left
  · rw [decide_eq_false hS]
    repeat' (first | refine rn ?_ | (apply TL_box; exact rfl; exact rfl; exact rfl; intro _ _) | (apply TL_alloc; exact rfl; intro _ _) | (apply TL_buildSlice; exact rfl; exact rfl; exact rfl; exact rfl; exact rfl; intro _ _))
    exact TQ_ret1 Try.results9 (RV.tmp rfl) (fun w' hs => ⟨rfl, hs.below⟩)
  rw [decide_eq_true hS]
  have hp := hS.1
  simp only [In] at hp
  have hl1 := hS.2.1
  have hl2 := hS.2.2.1
  have hl3 := hS.2.2.2.1
  repeat' (first | refine rn ?_ | (apply TL_box; exact rfl; exact rfl; exact rfl; intro _ _) | (apply TL_alloc; exact rfl; intro _ _) | (apply TL_buildSlice; exact rfl; exact rfl; exact rfl; exact rfl; exact rfl; intro _ _))
  refine TC_cond_dec rfl (fun g0 => ?_) (fun g0 => ?_)
  · repeat' (first | refine rn ?_ | (apply TL_box; exact rfl; exact rfl; exact rfl; intro _ _) | (apply TL_alloc; exact rfl; intro _ _) | (apply TL_buildSlice; exact rfl; exact rfl; exact rfl; exact rfl; exact rfl; intro _ _))
    exact TQ_ret1 Try.results9 (RV.tmp rfl) (fun w' hs => ⟨rfl, hs.below⟩)
  have c24' := fun w h1 h2 => c24 S p l lo lc (by omega) (by omega) (by omega) (by omega) w h1 h2
  have herr := loopR_err hS l
  have hopen := loop_open hS (l := l)
  generalize loopR S l = R at *
  obtain ⟨sm, e⟩ := R
  dsimp only at herr hopen
  repeat' (first | refine rn ?_ | (apply TL_box; exact rfl; exact rfl; exact rfl; intro _ _) | (apply TL_alloc; exact rfl; intro _ _) | (apply TL_buildSlice; exact rfl; exact rfl; exact rfl; exact rfl; exact rfl; intro _ _))
  refine TL_callV rfl rfl rfl (fun w h => c24' w (ha.mono h) (h.sl hb)) ?_
  dsimp only
  by_cases hop : e = 11 ∨ (e = 0 ∧ ¬ (sm.1 ≤ 0 ∧ 0 ≤ sm.2))
  rotate_left
  · rcases herr with rfl | rfl | rfl | rfl
    · have hh : sm.1 ≤ 0 ∧ 0 ≤ sm.2 := by
        apply Classical.byContradiction
        intro hn
        exact hop (.inr ⟨rfl, hn⟩)
      repeat' (first | (refine TL_leq_t rfl rfl rfl (by first | omega | (dsimp only; omega)) ?_) | (refine TL_geq_t rfl rfl rfl (by first | omega | (dsimp only; omega)) ?_) | refine r1 ?_ | (apply TL_box; exact rfl; exact rfl; exact rfl; intro _ _) | (apply TL_alloc; exact rfl; intro _ _) | (apply TL_buildSlice; exact rfl; exact rfl; exact rfl; exact rfl; exact rfl; intro _ _))
      exact TQ_ret1 Try.results9 (RV.tmp rfl) (fun w' hs => ⟨rfl, hs.below⟩)
    · repeat' (first | refine rn ?_ | (apply TL_box; exact rfl; exact rfl; exact rfl; intro _ _) | (apply TL_alloc; exact rfl; intro _ _) | (apply TL_buildSlice; exact rfl; exact rfl; exact rfl; exact rfl; exact rfl; intro _ _))
      exact TQ_ret1 Try.results9 (RV.tmp rfl) (fun w' hs => ⟨rfl, hs.below⟩)
    · repeat' (first | refine rn ?_ | (apply TL_box; exact rfl; exact rfl; exact rfl; intro _ _) | (apply TL_alloc; exact rfl; intro _ _) | (apply TL_buildSlice; exact rfl; exact rfl; exact rfl; exact rfl; exact rfl; intro _ _))
      exact TQ_ret1 Try.results9 (RV.tmp rfl) (fun w' hs => ⟨rfl, hs.below⟩)
    · exact absurd (.inl rfl) hop
  obtain ⟨okL, okSS⟩ := hopen hop
  have hOL := onlyL_ok hS l
  iterate 3 refine r1 ?_
  apply TL_alloc
  exact rfl
  intro b6 _
  iterate 5 refine r1 ?_
  refine TC_join (σ := Unit) (fun _ => True) (fun _ => [(1, .slice lo l.length lc), (2, .pointer (some ⟨b2, 0, none⟩)), (5, .bool true), (58, .bool false)]) (fun _ => [(b6, .cells (encSp sm) 36), (b2, .cells (encSv S p) 26)]) ?_ (fun _ _ => ?_)
  · rcases hop with rfl | ⟨rfl, hn⟩
    · repeat' (first | refine rn ?_ | (apply TL_box; exact rfl; exact rfl; exact rfl; intro _ _) | (apply TL_alloc; exact rfl; intro _ _) | (apply TL_buildSlice; exact rfl; exact rfl; exact rfl; exact rfl; exact rfl; intro _ _))
      exact TQ_mid () trivial sb (fun w h => h)
    · by_cases h0 : sm.1 ≤ 0
      · have h1' : ¬ 0 ≤ sm.2 := fun h => hn ⟨h0, h⟩
        repeat' (first | (refine TL_leq_t rfl rfl rfl (by first | omega | (dsimp only; omega)) ?_) | (refine TL_geq_f rfl rfl rfl (by first | omega | (dsimp only; omega)) ?_) | refine r1 ?_ | (apply TL_box; exact rfl; exact rfl; exact rfl; intro _ _) | (apply TL_alloc; exact rfl; intro _ _) | (apply TL_buildSlice; exact rfl; exact rfl; exact rfl; exact rfl; exact rfl; intro _ _))
        exact TQ_mid () trivial sb (fun w h => h)
      · repeat' (first | (refine TL_leq_f rfl rfl rfl (by first | omega | (dsimp only; omega)) ?_) | refine r1 ?_ | (apply TL_box; exact rfl; exact rfl; exact rfl; intro _ _) | (apply TL_alloc; exact rfl; intro _ _) | (apply TL_buildSlice; exact rfl; exact rfl; exact rfl; exact rfl; exact rfl; intro _ _))
        exact TQ_mid () trivial sb (fun w h => h)
  repeat' (first | refine rn ?_ | (apply TL_box; exact rfl; exact rfl; exact rfl; intro _ _) | (apply TL_alloc; exact rfl; intro _ _) | (apply TL_buildSlice; exact rfl; exact rfl; exact rfl; exact rfl; exact rfl; intro _ _))
  refine TL_makeMap rfl (fun bm _ => ?_)
  repeat' (first | refine rn ?_ | (apply TL_box; exact rfl; exact rfl; exact rfl; intro _ _) | (apply TL_alloc; exact rfl; intro _ _) | (apply TL_buildSlice; exact rfl; exact rfl; exact rfl; exact rfl; exact rfl; intro _ _))
  refine TC_loop (σ := Nat × Array MapEntry × Nat) (fun q => q.1 ≤ l.length ∧ MP q.2.1.toList (wayF l q.1)) (fun q => [(1, .slice lo l.length lc), (2, .pointer (some ⟨b2, 0, none⟩)), (5, .bool true), (8, .map (some bm)), (61, .slice lo l.length lc), (62, .int .i64 l.length), (63, .int .i64 (q.1 : Int))]) (fun q => (bm, .obj (.map q.2.1 q.2.2)) :: [(b6, .cells (encSp sm) 36), (b2, .cells (encSv S p) 26)]) (fun q => l.length - q.1) (0, #[], 0) ⟨Nat.zero_le _, by rw [wayF_zero]; exact MP.nil⟩ sb (fun w h => h) (fun q hq => ?_)
  obtain ⟨k, es, clk⟩ := q
  obtain ⟨hk, hmp⟩ := hq
  dsimp only at hk hmp ⊢
  repeat' (first | refine rn ?_ | (apply TL_box; exact rfl; exact rfl; exact rfl; intro _ _) | (apply TL_alloc; exact rfl; intro _ _) | (apply TL_buildSlice; exact rfl; exact rfl; exact rfl; exact rfl; exact rfl; intro _ _))
  refine TC_cond_dec rfl (fun g1 => ?_) (fun g1 => ?_)
  · have hlt : k < l.length := by omega
    have em : ((k : Int) + 1) % (l.length : Int) = (((k + 1) % l.length : Nat) : Int) := by rw [Int.natCast_emod, Int.natCast_add]; rfl
    have hml : (k + 1) % l.length < l.length := Nat.mod_lt _ (by omega)
    repeat' (first | refine rn ?_ | (apply TL_box; exact rfl; exact rfl; exact rfl; intro _ _) | (apply TL_alloc; exact rfl; intro _ _) | (apply TL_buildSlice; exact rfl; exact rfl; exact rfl; exact rfl; exact rfl; intro _ _))
    refine TL_index k rfl rfl rfl (fun w h => h.sl hb) rfl hlt (Nat.le_refl _) ?_
    refine TL_load_el1 (u := atR l k) rfl rfl (fun w h => h.sl hb) (atR_lt hlt) rfl ?_
    repeat' (first | refine rn ?_ | (apply TL_box; exact rfl; exact rfl; exact rfl; intro _ _) | (apply TL_alloc; exact rfl; intro _ _) | (apply TL_buildSlice; exact rfl; exact rfl; exact rfl; exact rfl; exact rfl; intro _ _))
    refine TL_index ((k + 1) % l.length) rfl rfl rfl (fun w h => h.sl hb) em hml (Nat.le_refl _) ?_
    refine TL_load_el1 (u := atR l (k + 1)) rfl rfl (fun w h => h.sl hb) (atR_mod (by omega) (k + 1)) rfl ?_
    repeat' (first | refine rn ?_ | (apply TL_box; exact rfl; exact rfl; exact rfl; intro _ _) | (apply TL_alloc; exact rfl; intro _ _) | (apply TL_buildSlice; exact rfl; exact rfl; exact rfl; exact rfl; exact rfl; intro _ _))
    refine TL_mapSetP (.inl rfl) (by decide) rfl (a := atR l k) (c := atR l (k + 1)) rfl rfl (fun es' clk' => up) hmp (fun es1 clk1 hmp1 => ?_)
    repeat' (first | refine rn ?_ | (apply TL_box; exact rfl; exact rfl; exact rfl; intro _ _) | (apply TL_alloc; exact rfl; intro _ _) | (apply TL_buildSlice; exact rfl; exact rfl; exact rfl; exact rfl; exact rfl; intro _ _))
    refine TL_mapSetP (.inl rfl) (by decide) rfl (a := atR l (k + 1)) (c := atR l k) rfl rfl (fun es' clk' => up) hmp1 (fun es2 clk2 hmp2 => ?_)
    rw [wayF_succ] at hmp2
    repeat' (first | refine rn ?_ | (apply TL_box; exact rfl; exact rfl; exact rfl; intro _ _) | (apply TL_alloc; exact rfl; intro _ _) | (apply TL_buildSlice; exact rfl; exact rfl; exact rfl; exact rfl; exact rfl; intro _ _))
    refine TQ_round (k + 1, es2, clk2) ⟨by dsimp only; omega, hmp2⟩ (by dsimp only; omega) sb (fun w h => h)
  have hk' : k = l.length := by omega
  subst hk'
  repeat' (first | refine rn ?_ | (apply TL_box; exact rfl; exact rfl; exact rfl; intro _ _) | (apply TL_alloc; exact rfl; intro _ _) | (apply TL_buildSlice; exact rfl; exact rfl; exact rfl; exact rfl; exact rfl; intro _ _))
  rename_i b12 _
  refine TC_loop (σ := Nat × Option Addr × Nat × Hp) (fun q => q.1 ≤ S.shots.length ∧ Row 78 4 encSh q.2.1 q.2.2.1 q.2.2.2 ((S.shots.take q.1).filter (betw l))) (fun q => [(1, .slice lo l.length lc), (2, .pointer (some ⟨b2, 0, none⟩)), (5, .bool true), (8, .map (some bm)), (12, .pointer (some ⟨b12, 0, none⟩)), (89, .slice p.a1 S.shots.length p.c1), (90, .int .i64 S.shots.length), (91, .int .i64 (q.1 : Int))])
    (fun q => (b12, .cells [.int .i64 S.pts, .slice q.2.1 ((S.shots.take q.1).filter (betw l)).length q.2.2.1, .slice none 0 0, .slice none 0 0] 26) :: (q.2.2.2 ++ ([(bm, .obj (.map es clk)), (b6, .cells (encSp sm) 36), (b2, .cells (encSv S p) 26)] : Hp))) (fun q => S.shots.length - q.1) (0, none, 0, []) ⟨Nat.zero_le _, Row.nil _ _ _⟩ sb (fun w h => h) (fun q hq => ?_)
  obtain ⟨k, a1, c1, o1⟩ := q
  obtain ⟨hk2, hr1⟩ := hq
  dsimp only at hk2 hr1 ⊢
  have hfl : ((S.shots.take k).filter (betw l)).length ≤ 60 := Nat.le_trans (List.length_filter_le _ _) (by rw [List.length_take]; omega)
  repeat' (first | refine rn ?_ | (apply TL_box; exact rfl; exact rfl; exact rfl; intro _ _) | (apply TL_alloc; exact rfl; intro _ _) | (apply TL_buildSlice; exact rfl; exact rfl; exact rfl; exact rfl; exact rfl; intro _ _))
  refine TC_cond_dec rfl (fun g2 => ?_) (fun g2 => ?_)
  · have hlt : k < S.shots.length := by omega
    obtain ⟨x, hx⟩ : ∃ x, S.shots[k]? = some x := ⟨_, List.getElem?_eq_getElem hlt⟩
    have hfs := filt_succ (l := l) hx
    repeat' (first | refine rn ?_ | (apply TL_box; exact rfl; exact rfl; exact rfl; intro _ _) | (apply TL_alloc; exact rfl; intro _ _) | (apply TL_buildSlice; exact rfl; exact rfl; exact rfl; exact rfl; exact rfl; intro _ _))
    refine TL_index k rfl rfl rfl (fun w h => h.sl ha.s1) rfl hlt (Nat.le_refl _) ?_
    refine TL_load_eln (u := x) rfl rfl (fun w h => h.sl ha.s1) hx rfl ?_
    repeat' (first | refine rn ?_ | (apply TL_box; exact rfl; exact rfl; exact rfl; intro _ _) | (apply TL_alloc; exact rfl; intro _ _) | (apply TL_buildSlice; exact rfl; exact rfl; exact rfl; exact rfl; exact rfl; intro _ _))
    rename_i b14 _
    refine TL_lookupP (by decide) rfl rfl (a := x.fr) (c := x.to) rfl mm hmp zero4 ?_
    rw [← betw_way]
    cases hbw : betw l x with
    | true =>
      rw [if_pos hbw] at hfs
      repeat' (first | refine rn ?_ | (apply TL_box; exact rfl; exact rfl; exact rfl; intro _ _) | (apply TL_alloc; exact rfl; intro _ _) | (apply TL_buildSlice; exact rfl; exact rfl; exact rfl; exact rfl; exact rfl; intro _ _))
      refine TL_append (l := (S.shots.take k).filter (betw l)) (l2 := [x]) (enc := encSh) (G := _) rfl (by rfl) rfl rfl rfl rfl rfl hr1 (pm_cons (pm_cons (pm_cons pm_here))) (fun w h => Sl.of_blk h mm (fun _ _ => rfl) ⟨[], by rfl⟩) (fun u _ => rfl) (by simp only [List.length_singleton]; omega) (by simp only [List.length_singleton, maxLen]; omega) (fun a2 c2 o2 hr2 => ?_)
      rw [← hfs] at hr2 ⊢
      repeat' (first | refine rn ?_ | (apply TL_box; exact rfl; exact rfl; exact rfl; intro _ _) | (apply TL_alloc; exact rfl; intro _ _) | (apply TL_buildSlice; exact rfl; exact rfl; exact rfl; exact rfl; exact rfl; intro _ _))
      refine TQ_round (k + 1, a2, c2, o2) ⟨by dsimp only; omega, hr2⟩ (by dsimp only; omega) sb (fun w h => (h.sub (List.Sublist.append_left (List.Sublist.cons _ (List.Sublist.cons _ (List.Sublist.refl _))) _)).perm (pm_cons pm_here).symm)
    | false =>
      rw [if_neg (by rw [hbw]; simp), List.append_nil] at hfs
      repeat' (first | refine rn ?_ | (apply TL_box; exact rfl; exact rfl; exact rfl; intro _ _) | (apply TL_alloc; exact rfl; intro _ _) | (apply TL_buildSlice; exact rfl; exact rfl; exact rfl; exact rfl; exact rfl; intro _ _))
      refine TQ_round (k + 1, a1, c1, o1) ⟨by dsimp only; omega, by rw [hfs]; exact hr1⟩ (by dsimp only; omega) sb (fun w h => by dsimp only; rw [hfs]; exact h.sub (List.Sublist.cons _ (List.Sublist.refl _)))
  have et : (S.shots.take k).filter (betw l) = (onlyL S l).shots := by rw [List.take_of_length_le (by omega)]; rfl
  rw [et] at hr1 hfl ⊢
  obtain ⟨q, hq⟩ : ∃ q : Pl, q = ⟨a1, c1, none, 0, none, 0⟩ := ⟨_, rfl⟩
  have eQ : encSv (onlyL S l) q = [.int .i64 S.pts, .slice a1 (onlyL S l).shots.length c1, .slice none 0 0, .slice none 0 0] := by rw [hq]; rfl
  have hsO : ∀ {w0 w : World} {B : Nat} {K : Hp}, SH B w0 w K → (∀ x ∈ o1, x ∈ K) → SvAt w (onlyL S l) q := fun h m1 => by rw [hq]; exact ⟨hr1.sl h m1, Sl.nil _ _ _ _, Sl.nil _ _ _ _⟩
  have c16' := fun w h => c16 S p (by omega) (by omega) (by omega) w h
  rw [heightsF_no hS okSS] at c16'
  have d16 := fun w h => c16 (onlyL S l) q (by omega) (by simp [onlyL]) (by simp [onlyL]) w h
  rw [heightsF_no hOL okL, eQ] at d16
  obtain ⟨cl, ecl, hpos, _⟩ := named_law hOL okL
  have d26 := fun w h => c26 (onlyL S l) q (by omega) (by simp [onlyL]) (by simp [onlyL]) w h
  rw [ecl, eQ] at d26
  repeat' (first | refine rn ?_ | (apply TL_box; exact rfl; exact rfl; exact rfl; intro _ _) | (apply TL_alloc; exact rfl; intro _ _) | (apply TL_buildSlice; exact rfl; exact rfl; exact rfl; exact rfl; exact rfl; intro _ _))
  refine TL_callN rfl rfl rfl (fun w h => c16' w (ha.mono h)) ?_
  rintro ⟨so2, sc2, ob2⟩ hrow2
  change TL _ _ _ _ _ _ _ _ _ _ _
  dsimp only
  repeat' (first | refine rn ?_ | (apply TL_box; exact rfl; exact rfl; exact rfl; intro _ _) | (apply TL_alloc; exact rfl; intro _ _) | (apply TL_buildSlice; exact rfl; exact rfl; exact rfl; exact rfl; exact rfl; intro _ _))
  refine TL_callN rfl rfl rfl (fun w h => d16 w (hsO h (fun x hx => by simp only [List.mem_append, List.mem_cons, hx, true_or, or_true]))) ?_
  rintro ⟨so3, sc3, ob3⟩ hrow3
  change TL _ _ _ _ _ _ _ _ _ _ _
  dsimp only
  repeat' (first | refine rn ?_ | (apply TL_box; exact rfl; exact rfl; exact rfl; intro _ _) | (apply TL_alloc; exact rfl; intro _ _) | (apply TL_buildSlice; exact rfl; exact rfl; exact rfl; exact rfl; exact rfl; intro _ _))
  refine TL_callN rfl rfl rfl (fun w h => d26 w (hsO h (fun x hx => by simp only [List.mem_append, List.mem_cons, hx, true_or, or_true]))) ?_
  rintro ⟨so4, sc4, ob4⟩ hrow4
  change TL _ _ _ _ _ _ _ _ _ _ _
  dsimp only
  repeat' (first | (refine TL_eql_same rfl rfl rfl ?_) | (refine TL_gtr_t rfl rfl rfl (by first | omega | (dsimp only; omega)) ?_) | refine r1 ?_ | (apply TL_box; exact rfl; exact rfl; exact rfl; intro _ _) | (apply TL_alloc; exact rfl; intro _ _) | (apply TL_buildSlice; exact rfl; exact rfl; exact rfl; exact rfl; exact rfl; intro _ _))
  exact TQ_ret1 Try.results9 (RV.tmp rfl) (fun w' hs => ⟨rfl, hs.below⟩)
end Go.Proofs.Ytoolblbdmmiahaa
