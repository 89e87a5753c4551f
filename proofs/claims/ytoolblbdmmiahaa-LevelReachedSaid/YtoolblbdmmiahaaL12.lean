/- Walks: what the shots say of a way; Loop, of the program and of the reference. -/
import Derived.Test.YtoolblbdmmiahaaL11
namespace Go.Proofs.Ytoolblbdmmiahaa
open Go Go.Eng Go.RowKit Go.Proofs
set_option maxHeartbeats 4000000
set_option maxRecDepth 10000
attribute [local irreducible] TL TC TQ

def saysK (S : Sv) (a b : Int) (k : Nat) : Sp × Nat := (S.shots.take k).foldl (sayStep a b) ((-20000000, 20000000), 0)
theorem saysK_succ {S : Sv} {a b : Int} {k : Nat} {x : Sh} (h : S.shots[k]? = some x) : saysK S a b (k + 1) = sayStep a b (saysK S a b k) x := by
  unfold saysK
  rw [List.take_add_one, h, List.foldl_append]; rfl
theorem saysK_all (S : Sv) (a b : Int) : saysK S a b S.shots.length = saysR S a b := by unfold saysK saysR; rw [List.take_length]
theorem saysK_B {S : Sv} (hS : ∀ x ∈ S.shots, OkSh S.pts x) (a b : Int) : ∀ k, k ≤ S.shots.length → ((-20000000 ≤ (saysK S a b k).1.1 ∧ (saysK S a b k).1.1 ≤ 20000000) ∧ (-20000000 ≤ (saysK S a b k).1.2 ∧ (saysK S a b k).1.2 ≤ 20000000)) ∧ (saysK S a b k).2 ≤ k := by
  intro k
  induction k with
  | zero => intro _; simp [saysK]
  | succ k ih =>
    intro hk
    obtain ⟨x, hx⟩ : ∃ x, S.shots[k]? = some x := ⟨_, List.getElem?_eq_getElem (by omega)⟩
    have ho := (hS x (List.mem_of_getElem? hx)).2
    simp only [Ord] at ho
    have := ih (by omega)
    rw [saysK_succ hx]
    unfold sayStep
    split
    · dsimp only; omega
    · split
      · dsimp only; omega
      · omega
theorem says_B {S : Sv} (hS : ∀ x ∈ S.shots, OkSh S.pts x) (a b : Int) : ((-20000000 ≤ (saysR S a b).1.1 ∧ (saysR S a b).1.1 ≤ 20000000) ∧ (-20000000 ≤ (saysR S a b).1.2 ∧ (saysR S a b).1.2 ≤ 20000000)) ∧ (saysR S a b).2 ≤ S.shots.length := by
  rw [← saysK_all]; exact saysK_B hS a b _ (Nat.le_refl _)
theorem c55 (S : Sv) (p : Pl) (hS : OkSv S) (a b : Int) (w : World) (ha : SvAt w S p) :
    Calls Try.prog 55 #[.agg (encSv S p).toArray, .int .i64 a, .int .i64 b] w (RetV w (.tuple #[.agg (encSp (saysR S a b).1).toArray, .int .i64 (saysR S a b).2])) := by
  have hsh := hS.2.2.2.2.1
  have hl1 := hS.2.1
  refine enter (args := [.agg (encSv S p).toArray, .int .i64 a, .int .i64 b]) Try.func55 rfl Try.ntmps55 rfl (SH.refl _) ?_
  repeat' (first | refine rn ?_ | (apply TL_box; exact rfl; exact rfl; exact rfl; intro _ _) | (apply TL_alloc; exact rfl; intro _ _) | (apply TL_buildSlice; exact rfl; exact rfl; exact rfl; exact rfl; exact rfl; intro _ _))
  rename_i b3 _ b6 _ b8 _
  refine TC_loop (σ := Nat) (fun k => k ≤ S.shots.length) (fun k => [(1, .int .i64 a), (2, .int .i64 b), (3, .pointer (some ⟨b3, 0, none⟩)), (6, .pointer (some ⟨b6, 0, none⟩)), (8, .pointer (some ⟨b8, 0, none⟩)), (9, .int .i64 ((saysK S a b k).2 : Nat)), (10, .int .i64 k)]) (fun k => [(b8, .cells (encSp (saysK S a b k).1) 36), (b6, .cells [.int .i64 0, .int .i64 0] 36), (b3, .cells (encSv S p) 26)]) (fun k => S.shots.length - k) 0 (Nat.zero_le _) sb (fun w h => h) (fun k hk => ?_)
  repeat' (first | refine rn ?_ | (apply TL_box; exact rfl; exact rfl; exact rfl; intro _ _) | (apply TL_alloc; exact rfl; intro _ _) | (apply TL_buildSlice; exact rfl; exact rfl; exact rfl; exact rfl; exact rfl; intro _ _))
  refine TC_cond_dec rfl (fun h1 => ?_) (fun h1 => ?_)
  · have hlt : k < S.shots.length := by omega
    obtain ⟨x, hx⟩ : ∃ x, S.shots[k]? = some x := ⟨_, List.getElem?_eq_getElem hlt⟩
    obtain ⟨⟨_, _, hne⟩, hox⟩ := hsh x (List.mem_of_getElem? hx)
    simp only [Ord] at hox
    have hB := saysK_B hsh a b k hk
    repeat' (first | refine rn ?_ | (apply TL_box; exact rfl; exact rfl; exact rfl; intro _ _) | (apply TL_alloc; exact rfl; intro _ _) | (apply TL_buildSlice; exact rfl; exact rfl; exact rfl; exact rfl; exact rfl; intro _ _))
    refine TL_index k rfl rfl rfl (fun w h => h.sl ha.s1) rfl hlt (Nat.le_refl _) ?_
    refine TL_load_eln (u := x) rfl rfl (fun w h => h.sl ha.s1) hx rfl ?_
    repeat' (first | refine rn ?_ | (apply TL_box; exact rfl; exact rfl; exact rfl; intro _ _) | (apply TL_alloc; exact rfl; intro _ _) | (apply TL_buildSlice; exact rfl; exact rfl; exact rfl; exact rfl; exact rfl; intro _ _))
    refine TL_gsplit_dec rfl rfl (fun g1 => ?_) (fun g1 => ?_)
    · repeat' (first | refine rn ?_ | (apply TL_box; exact rfl; exact rfl; exact rfl; intro _ _) | (apply TL_alloc; exact rfl; intro _ _) | (apply TL_buildSlice; exact rfl; exact rfl; exact rfl; exact rfl; exact rfl; intro _ _))
      refine TC_cond_dec rfl (fun g2 => ?_) (fun g2 => ?_)
      · repeat' (first | refine rn ?_ | (apply TL_box; exact rfl; exact rfl; exact rfl; intro _ _) | (apply TL_alloc; exact rfl; intro _ _) | (apply TL_buildSlice; exact rfl; exact rfl; exact rfl; exact rfl; exact rfl; intro _ _))
        repeat' (first | refine rn ?_ | (apply TL_box; exact rfl; exact rfl; exact rfl; intro _ _) | (apply TL_alloc; exact rfl; intro _ _) | (apply TL_buildSlice; exact rfl; exact rfl; exact rfl; exact rfl; exact rfl; intro _ _))
        refine TL_gsplit_dec rfl rfl (fun g3 => ?_) (fun g3 => ?_)
        · exfalso; omega
        · repeat' (first | refine rn ?_ | (apply TL_box; exact rfl; exact rfl; exact rfl; intro _ _) | (apply TL_alloc; exact rfl; intro _ _) | (apply TL_buildSlice; exact rfl; exact rfl; exact rfl; exact rfl; exact rfl; intro _ _))
          have hst : saysK S a b (k + 1) = ((max (saysK S a b k).1.1 x.rise.1, min (saysK S a b k).1.2 x.rise.2), (saysK S a b k).2 + 1) := by rw [saysK_succ hx]; unfold sayStep; first | (exfalso; omega) | (rw [if_pos (by omega)]) | (rw [if_neg (by omega), if_pos (by omega)]) | (rw [if_neg (by omega), if_neg (by omega)])
          refine TQ_round (k + 1) hlt (by omega) (by (try dsimp only); rw [hst]; exact sb) (fun w h => by (try dsimp only); rw [hst]; exact h.sub (List.Sublist.cons _ (List.Sublist.refl _)))
      · repeat' (first | refine rn ?_ | (apply TL_box; exact rfl; exact rfl; exact rfl; intro _ _) | (apply TL_alloc; exact rfl; intro _ _) | (apply TL_buildSlice; exact rfl; exact rfl; exact rfl; exact rfl; exact rfl; intro _ _))
        repeat' (first | refine rn ?_ | (apply TL_box; exact rfl; exact rfl; exact rfl; intro _ _) | (apply TL_alloc; exact rfl; intro _ _) | (apply TL_buildSlice; exact rfl; exact rfl; exact rfl; exact rfl; exact rfl; intro _ _))
        refine TL_gsplit_dec rfl rfl (fun g3 => ?_) (fun g3 => ?_)
        · repeat' (first | refine rn ?_ | (apply TL_box; exact rfl; exact rfl; exact rfl; intro _ _) | (apply TL_alloc; exact rfl; intro _ _) | (apply TL_buildSlice; exact rfl; exact rfl; exact rfl; exact rfl; exact rfl; intro _ _))
          refine TC_cond_dec rfl (fun g4 => ?_) (fun g4 => ?_)
          · repeat' (first | refine rn ?_ | (apply TL_box; exact rfl; exact rfl; exact rfl; intro _ _) | (apply TL_alloc; exact rfl; intro _ _) | (apply TL_buildSlice; exact rfl; exact rfl; exact rfl; exact rfl; exact rfl; intro _ _))
            have hst : saysK S a b (k + 1) = ((max (saysK S a b k).1.1 (-x.rise.2), min (saysK S a b k).1.2 (-x.rise.1)), (saysK S a b k).2 + 1) := by rw [saysK_succ hx]; unfold sayStep; first | (exfalso; omega) | (rw [if_pos (by omega)]) | (rw [if_neg (by omega), if_pos (by omega)]) | (rw [if_neg (by omega), if_neg (by omega)])
            refine TQ_round (k + 1) hlt (by omega) (by (try dsimp only); rw [hst]; exact sb) (fun w h => by (try dsimp only); rw [hst]; exact h.sub (List.Sublist.cons _ (List.Sublist.refl _)))
          · repeat' (first | refine rn ?_ | (apply TL_box; exact rfl; exact rfl; exact rfl; intro _ _) | (apply TL_alloc; exact rfl; intro _ _) | (apply TL_buildSlice; exact rfl; exact rfl; exact rfl; exact rfl; exact rfl; intro _ _))
            have hst : saysK S a b (k + 1) = saysK S a b k := by rw [saysK_succ hx]; unfold sayStep; first | (exfalso; omega) | (rw [if_pos (by omega)]) | (rw [if_neg (by omega), if_pos (by omega)]) | (rw [if_neg (by omega), if_neg (by omega)])
            refine TQ_round (k + 1) hlt (by omega) (by (try dsimp only); rw [hst]; exact sb) (fun w h => by (try dsimp only); rw [hst]; exact h.sub (List.Sublist.cons _ (List.Sublist.refl _)))
        · repeat' (first | refine rn ?_ | (apply TL_box; exact rfl; exact rfl; exact rfl; intro _ _) | (apply TL_alloc; exact rfl; intro _ _) | (apply TL_buildSlice; exact rfl; exact rfl; exact rfl; exact rfl; exact rfl; intro _ _))
          have hst : saysK S a b (k + 1) = saysK S a b k := by rw [saysK_succ hx]; unfold sayStep; first | (exfalso; omega) | (rw [if_pos (by omega)]) | (rw [if_neg (by omega), if_pos (by omega)]) | (rw [if_neg (by omega), if_neg (by omega)])
          refine TQ_round (k + 1) hlt (by omega) (by (try dsimp only); rw [hst]; exact sb) (fun w h => by (try dsimp only); rw [hst]; exact h.sub (List.Sublist.cons _ (List.Sublist.refl _)))
    · repeat' (first | refine rn ?_ | (apply TL_box; exact rfl; exact rfl; exact rfl; intro _ _) | (apply TL_alloc; exact rfl; intro _ _) | (apply TL_buildSlice; exact rfl; exact rfl; exact rfl; exact rfl; exact rfl; intro _ _))
      repeat' (first | refine rn ?_ | (apply TL_box; exact rfl; exact rfl; exact rfl; intro _ _) | (apply TL_alloc; exact rfl; intro _ _) | (apply TL_buildSlice; exact rfl; exact rfl; exact rfl; exact rfl; exact rfl; intro _ _))
      refine TL_gsplit_dec rfl rfl (fun g3 => ?_) (fun g3 => ?_)
      · repeat' (first | refine rn ?_ | (apply TL_box; exact rfl; exact rfl; exact rfl; intro _ _) | (apply TL_alloc; exact rfl; intro _ _) | (apply TL_buildSlice; exact rfl; exact rfl; exact rfl; exact rfl; exact rfl; intro _ _))
        refine TC_cond_dec rfl (fun g4 => ?_) (fun g4 => ?_)
        · repeat' (first | refine rn ?_ | (apply TL_box; exact rfl; exact rfl; exact rfl; intro _ _) | (apply TL_alloc; exact rfl; intro _ _) | (apply TL_buildSlice; exact rfl; exact rfl; exact rfl; exact rfl; exact rfl; intro _ _))
          have hst : saysK S a b (k + 1) = ((max (saysK S a b k).1.1 (-x.rise.2), min (saysK S a b k).1.2 (-x.rise.1)), (saysK S a b k).2 + 1) := by rw [saysK_succ hx]; unfold sayStep; first | (exfalso; omega) | (rw [if_pos (by omega)]) | (rw [if_neg (by omega), if_pos (by omega)]) | (rw [if_neg (by omega), if_neg (by omega)])
          refine TQ_round (k + 1) hlt (by omega) (by (try dsimp only); rw [hst]; exact sb) (fun w h => by (try dsimp only); rw [hst]; exact h.sub (List.Sublist.cons _ (List.Sublist.refl _)))
        · repeat' (first | refine rn ?_ | (apply TL_box; exact rfl; exact rfl; exact rfl; intro _ _) | (apply TL_alloc; exact rfl; intro _ _) | (apply TL_buildSlice; exact rfl; exact rfl; exact rfl; exact rfl; exact rfl; intro _ _))
          have hst : saysK S a b (k + 1) = saysK S a b k := by rw [saysK_succ hx]; unfold sayStep; first | (exfalso; omega) | (rw [if_pos (by omega)]) | (rw [if_neg (by omega), if_pos (by omega)]) | (rw [if_neg (by omega), if_neg (by omega)])
          refine TQ_round (k + 1) hlt (by omega) (by (try dsimp only); rw [hst]; exact sb) (fun w h => by (try dsimp only); rw [hst]; exact h.sub (List.Sublist.cons _ (List.Sublist.refl _)))
      · repeat' (first | refine rn ?_ | (apply TL_box; exact rfl; exact rfl; exact rfl; intro _ _) | (apply TL_alloc; exact rfl; intro _ _) | (apply TL_buildSlice; exact rfl; exact rfl; exact rfl; exact rfl; exact rfl; intro _ _))
        have hst : saysK S a b (k + 1) = saysK S a b k := by rw [saysK_succ hx]; unfold sayStep; first | (exfalso; omega) | (rw [if_pos (by omega)]) | (rw [if_neg (by omega), if_pos (by omega)]) | (rw [if_neg (by omega), if_neg (by omega)])
        refine TQ_round (k + 1) hlt (by omega) (by (try dsimp only); rw [hst]; exact sb) (fun w h => by (try dsimp only); rw [hst]; exact h.sub (List.Sublist.cons _ (List.Sublist.refl _)))
  have hk2 : k = S.shots.length := by omega
  subst hk2
  rw [saysK_all]
  repeat' (first | refine rn ?_ | (apply TL_box; exact rfl; exact rfl; exact rfl; intro _ _) | (apply TL_alloc; exact rfl; intro _ _) | (apply TL_buildSlice; exact rfl; exact rfl; exact rfl; exact rfl; exact rfl; intro _ _))
  exact TQ_ret2 Try.results55 (RV.celln rfl mm (by rfl)) (RV.tmp rfl) (fun w' hs => ⟨rfl, hs.below⟩)
theorem atR_lt {l : List Int} {i : Nat} (h : i < l.length) : l[i]? = some (atR l i) := by
  unfold atR
  rw [Nat.mod_eq_of_lt h, List.getD_eq_getElem?_getD, List.getElem?_eq_getElem h]; rfl
theorem atR_mod {l : List Int} (h : 0 < l.length) (i : Nat) : l[i % l.length]? = some (atR l i) := by
  unfold atR
  rw [List.getD_eq_getElem?_getD, List.getElem?_eq_getElem (Nat.mod_lt _ h)]; rfl
theorem loopR_inv {S : Sv} (h : ¬ OkSv S) (l : List Int) : loopR S l = ((0, 0), 10) := if_pos h
theorem loopR_bad {S : Sv} (h : OkSv S) {l : List Int} (h2 : badPts S l) : loopR S l = ((0, 0), 2) := by unfold loopR; rw [if_neg (not_not_intro h), if_pos h2]
theorem loopR_none {S : Sv} (h : OkSv S) {l : List Int} (h2 : ¬ badPts S l) (h3 : ∃ i, i < l.length ∧ (legR S l i).2 = 0) : loopR S l = ((0, 0), 6) := by unfold loopR; rw [if_neg (not_not_intro h), if_neg h2, if_pos h3]
theorem loopR_apart {S : Sv} (h : OkSv S) {l : List Int} (h2 : ¬ badPts S l) (h3 : ¬ ∃ i, i < l.length ∧ (legR S l i).2 = 0) (h4 : ∃ i, i < l.length ∧ (legR S l i).1.2 < (legR S l i).1.1) : loopR S l = ((0, 0), 11) := by unfold loopR; rw [if_neg (not_not_intro h), if_neg h2, if_neg h3, if_pos h4]
theorem loopR_ok {S : Sv} (h : OkSv S) {l : List Int} (h2 : ¬ badPts S l) (h3 : ¬ ∃ i, i < l.length ∧ (legR S l i).2 = 0) (h4 : ¬ ∃ i, i < l.length ∧ (legR S l i).1.2 < (legR S l i).1.1) : loopR S l = (sumL S l l.length, 0) := by unfold loopR; rw [if_neg (not_not_intro h), if_neg h2, if_neg h3, if_neg h4]
theorem sum_B {S : Sv} (hS : OkSv S) (l : List Int) : ∀ m : Nat, (-(20000000 * (m : Int)) ≤ (sumL S l m).1 ∧ (sumL S l m).1 ≤ 20000000 * (m : Int)) ∧ (-(20000000 * (m : Int)) ≤ (sumL S l m).2 ∧ (sumL S l m).2 ≤ 20000000 * (m : Int)) := by
  intro m
  induction m with
  | zero => simp [sumL]
  | succ m ih =>
    have := says_B hS.2.2.2.2.1 (atR l m) (atR l (m + 1))
    unfold legR at *
    simp only [sumL, legR]
    omega
theorem c25 (S : Sv) (p : Pl) (l : List Int) (ao : Option Addr) (c : Nat) (hl : l.length ≤ 1000000) (h1 : S.shots.length ≤ 1000000) (h2 : S.marks.length ≤ 1000000) (h3 : S.thr.length ≤ 1000000) (w : World) (ha : SvAt w S p) (hb : Sl w 1 encI ao l) :
    Calls Try.prog 25 #[.agg (encSv S p).toArray, .slice ao l.length c] w (RetV w (.tuple #[.agg (encSp (loopR S l).1).toArray, .int .i64 (loopR S l).2])) := by
  refine enter (args := [.agg (encSv S p).toArray, .slice ao l.length c]) Try.func25 rfl Try.ntmps25 rfl (SH.refl _) ?_
  repeat' (first | refine rn ?_ | (apply TL_box; exact rfl; exact rfl; exact rfl; intro _ _) | (apply TL_alloc; exact rfl; intro _ _) | (apply TL_buildSlice; exact rfl; exact rfl; exact rfl; exact rfl; exact rfl; intro _ _))
  rename_i b2 _ b4 _
  refine TL_callV rfl rfl rfl (fun w h => c21 S p h1 h2 h3 w (ha.mono h)) ?_
  by_cases hS : OkSv S
  rotate_left
  · rw [checkS_no hS, loopR_inv hS]
    repeat' (first | refine rn ?_ | (apply TL_box; exact rfl; exact rfl; exact rfl; intro _ _) | (apply TL_alloc; exact rfl; intro _ _) | (apply TL_buildSlice; exact rfl; exact rfl; exact rfl; exact rfl; exact rfl; intro _ _))
    exact TQ_ret2 Try.results25 (RV.celln rfl mm (by rfl)) (RV.tmp rfl) (fun w' hs => ⟨rfl, hs.below⟩)
  rw [checkS_ok hS]
  repeat' (first | refine rn ?_ | (apply TL_box; exact rfl; exact rfl; exact rfl; intro _ _) | (apply TL_alloc; exact rfl; intro _ _) | (apply TL_buildSlice; exact rfl; exact rfl; exact rfl; exact rfl; exact rfl; intro _ _))
  refine TL_callV rfl rfl rfl (fun w h => c49 l.length 2 20 w) ?_
  by_cases hin : In l.length 2 20
  rotate_left
  · rw [decide_eq_false hin, loopR_bad hS (.inl hin)]
    repeat' (first | refine rn ?_ | (apply TL_box; exact rfl; exact rfl; exact rfl; intro _ _) | (apply TL_alloc; exact rfl; intro _ _) | (apply TL_buildSlice; exact rfl; exact rfl; exact rfl; exact rfl; exact rfl; intro _ _))
    exact TQ_ret2 Try.results25 (RV.celln rfl mm (by rfl)) (RV.tmp rfl) (fun w' hs => ⟨rfl, hs.below⟩)
  rw [decide_eq_true hin]
  simp only [In] at hin
  have hp : In S.pts (-1000000) 1000000 := by have := hS.1; simp only [In] at this ⊢; omega
  have hsh := hS.2.2.2.2.1
  have hl1 := hS.2.1
  repeat' (first | refine rn ?_ | (apply TL_box; exact rfl; exact rfl; exact rfl; intro _ _) | (apply TL_alloc; exact rfl; intro _ _) | (apply TL_buildSlice; exact rfl; exact rfl; exact rfl; exact rfl; exact rfl; intro _ _))
  refine TC_loop (σ := Nat) (fun i => i ≤ l.length ∧ ∀ j, j < i → In (atR l j) 0 (S.pts - 1) ∧ In (atR l (j + 1)) 0 (S.pts - 1) ∧ atR l j ≠ atR l (j + 1)) (fun i => [(1, .slice ao l.length c), (2, .pointer (some ⟨b2, 0, none⟩)), (4, .pointer (some ⟨b4, 0, none⟩)), (6, .int .i64 l.length), (7, .int .i64 i)]) (fun _ => [(b4, .cells [.int .i64 0, .int .i64 0] 36), (b2, .cells (encSv S p) 26)]) (fun i => l.length - i) 0 ⟨Nat.zero_le _, fun j h => by omega⟩ sb (fun w h => h) (fun i hi => ?_)
  repeat' (first | refine rn ?_ | (apply TL_box; exact rfl; exact rfl; exact rfl; intro _ _) | (apply TL_alloc; exact rfl; intro _ _) | (apply TL_buildSlice; exact rfl; exact rfl; exact rfl; exact rfl; exact rfl; intro _ _))
  refine TC_cond_dec rfl (fun g1 => ?_) (fun g1 => ?_)
  · have hlt : i < l.length := by omega
    have e53 := fun w => c53 S p hp (atR l i) (atR l (i + 1)) w
    by_cases g2 : In (atR l i) 0 (S.pts - 1) ∧ In (atR l (i + 1)) 0 (S.pts - 1) ∧ atR l i ≠ atR l (i + 1)
    rotate_left
    · rw [decide_eq_false g2] at e53
      repeat' (first | refine rn ?_ | (apply TL_box; exact rfl; exact rfl; exact rfl; intro _ _) | (apply TL_alloc; exact rfl; intro _ _) | (apply TL_buildSlice; exact rfl; exact rfl; exact rfl; exact rfl; exact rfl; intro _ _))
      apply TC_draw 14; kernel_rfl; exact Try.mixed
      · iterate 3 (refine' pv ?_; rotate_left)
        (refine' PG.val rfl rfl (by intro _X; refine TL_index i rfl rfl rfl (fun w h => h.sl hb) rfl hlt (Nat.le_refl _) ?_; exact qe) ?_; rotate_left)
        (refine' PG.val rfl rfl (by intro _X; refine TL_load_el1 (u := atR l i) rfl rfl (fun w h => h.sl hb) (atR_lt hlt) rfl ?_; exact qe) ?_; rotate_left)
        iterate 4 (refine' pv ?_; rotate_left)
        (refine' PG.val rfl rfl (by intro _X; refine TL_rem_nn rfl rfl rfl (by omega) (by omega) ?_; exact qe) ?_; rotate_left)
        (refine' PG.val rfl rfl (by intro _X; refine TL_index ((i + 1) % l.length) rfl rfl rfl (fun w h => h.sl hb) (by rw [Int.natCast_emod]; rfl) (Nat.mod_lt _ (by omega)) (Nat.le_refl _) ?_; exact qe) ?_; rotate_left)
        (refine' PG.val rfl rfl (by intro _X; refine TL_load_el1 (u := atR l (i + 1)) rfl rfl (fun w h => h.sl hb) (atR_mod (by omega) (i + 1)) rfl ?_; exact qe) ?_; rotate_left)
        (refine' PG.val rfl rfl (by intro _X; refine TL_callV rfl rfl rfl (fun w _ => e53 w) ?_; exact qe) ?_; rotate_left)
        (refine' pv ?_; rotate_left)
        exact PG.nil
      change TL _ _ _ _ _ _ _ _ _ _ _
      repeat' (first | refine rn ?_ | (apply TL_box; exact rfl; exact rfl; exact rfl; intro _ _) | (apply TL_alloc; exact rfl; intro _ _) | (apply TL_buildSlice; exact rfl; exact rfl; exact rfl; exact rfl; exact rfl; intro _ _))
      rw [loopR_bad hS (.inr (fun hq => g2 ⟨(hq i hlt).1, by
        by_cases he : i + 1 < l.length
        · exact (hq (i + 1) he).1
        · rw [show i + 1 = l.length by omega, atR_wrap (by intro h; rw [h] at hlt; simp at hlt)]; exact (hq 0 (by omega)).1, (hq i hlt).2⟩))]
      exact TQ_ret2 Try.results25 (RV.celln rfl mm (by rfl)) (RV.tmp rfl) (fun w' hs => ⟨rfl, hs.below⟩)
    rw [decide_eq_true g2] at e53
    repeat' (first | refine rn ?_ | (apply TL_box; exact rfl; exact rfl; exact rfl; intro _ _) | (apply TL_alloc; exact rfl; intro _ _) | (apply TL_buildSlice; exact rfl; exact rfl; exact rfl; exact rfl; exact rfl; intro _ _))
    apply TC_draw 14; kernel_rfl; exact Try.mixed
    · iterate 3 (refine' pv ?_; rotate_left)
      (refine' PG.val rfl rfl (by intro _X; refine TL_index i rfl rfl rfl (fun w h => h.sl hb) rfl hlt (Nat.le_refl _) ?_; exact qe) ?_; rotate_left)
      (refine' PG.val rfl rfl (by intro _X; refine TL_load_el1 (u := atR l i) rfl rfl (fun w h => h.sl hb) (atR_lt hlt) rfl ?_; exact qe) ?_; rotate_left)
      iterate 4 (refine' pv ?_; rotate_left)
      (refine' PG.val rfl rfl (by intro _X; refine TL_rem_nn rfl rfl rfl (by omega) (by omega) ?_; exact qe) ?_; rotate_left)
      (refine' PG.val rfl rfl (by intro _X; refine TL_index ((i + 1) % l.length) rfl rfl rfl (fun w h => h.sl hb) (by rw [Int.natCast_emod]; rfl) (Nat.mod_lt _ (by omega)) (Nat.le_refl _) ?_; exact qe) ?_; rotate_left)
      (refine' PG.val rfl rfl (by intro _X; refine TL_load_el1 (u := atR l (i + 1)) rfl rfl (fun w h => h.sl hb) (atR_mod (by omega) (i + 1)) rfl ?_; exact qe) ?_; rotate_left)
      (refine' PG.val rfl rfl (by intro _X; refine TL_callV rfl rfl rfl (fun w _ => e53 w) ?_; exact qe) ?_; rotate_left)
      (refine' pv ?_; rotate_left)
      exact PG.nil
    change TL _ _ _ _ _ _ _ _ _ _ _
    repeat' (first | refine rn ?_ | (apply TL_box; exact rfl; exact rfl; exact rfl; intro _ _) | (apply TL_alloc; exact rfl; intro _ _) | (apply TL_buildSlice; exact rfl; exact rfl; exact rfl; exact rfl; exact rfl; intro _ _))
    refine TQ_round (i + 1) ⟨hlt, fun j hj => ?_⟩ (by omega) sb (fun w h => h)
    rcases Nat.lt_or_ge j i with h | h
    · exact hi.2 j h
    · have : j = i := by omega
      subst this; exact g2
  have hbad : ¬ badPts S l := by
    unfold badPts
    rw [not_or]
    exact ⟨not_not_intro hin, not_not_intro (fun i hi' => ⟨(hi.2 i (by omega)).1, (hi.2 i (by omega)).2.2⟩)⟩
  clear hi g1
  repeat' (first | refine rn ?_ | (apply TL_box; exact rfl; exact rfl; exact rfl; intro _ _) | (apply TL_alloc; exact rfl; intro _ _) | (apply TL_buildSlice; exact rfl; exact rfl; exact rfl; exact rfl; exact rfl; intro _ _))
  refine TC_loop (σ := Nat) (fun i => i ≤ l.length ∧ ∀ j, j < i → (legR S l j).2 ≠ 0) (fun i => [(1, .slice ao l.length c), (2, .pointer (some ⟨b2, 0, none⟩)), (4, .pointer (some ⟨b4, 0, none⟩)), (6, .int .i64 l.length), (8, .int .i64 i)]) (fun _ => [(b4, .cells [.int .i64 0, .int .i64 0] 36), (b2, .cells (encSv S p) 26)]) (fun i => l.length - i) 0 ⟨Nat.zero_le _, fun j h => by omega⟩ sb (fun w h => h) (fun i hi => ?_)
  repeat' (first | refine rn ?_ | (apply TL_box; exact rfl; exact rfl; exact rfl; intro _ _) | (apply TL_alloc; exact rfl; intro _ _) | (apply TL_buildSlice; exact rfl; exact rfl; exact rfl; exact rfl; exact rfl; intro _ _))
  refine TC_cond_dec rfl (fun g1 => ?_) (fun g1 => ?_)
  · have hlt : i < l.length := by omega
    have e55 := fun w ha => c55 S p hS (atR l i) (atR l (i + 1)) w ha
    repeat' (first | refine rn ?_ | (apply TL_box; exact rfl; exact rfl; exact rfl; intro _ _) | (apply TL_alloc; exact rfl; intro _ _) | (apply TL_buildSlice; exact rfl; exact rfl; exact rfl; exact rfl; exact rfl; intro _ _))
    apply TC_draw3 17 15; kernel_rfl; exact Try.mixed
    · iterate 3 (refine' pv ?_; rotate_left)
      (refine' PG.val rfl rfl (by intro _X; refine TL_index i rfl rfl rfl (fun w h => h.sl hb) rfl hlt (Nat.le_refl _) ?_; exact qe) ?_; rotate_left)
      (refine' PG.val rfl rfl (by intro _X; refine TL_load_el1 (u := atR l i) rfl rfl (fun w h => h.sl hb) (atR_lt hlt) rfl ?_; exact qe) ?_; rotate_left)
      iterate 4 (refine' pv ?_; rotate_left)
      (refine' PG.val rfl rfl (by intro _X; refine TL_rem_nn rfl rfl rfl (by omega) (by omega) ?_; exact qe) ?_; rotate_left)
      (refine' PG.val rfl rfl (by intro _X; refine TL_index ((i + 1) % l.length) rfl rfl rfl (fun w h => h.sl hb) (by rw [Int.natCast_emod]; rfl) (Nat.mod_lt _ (by omega)) (Nat.le_refl _) ?_; exact qe) ?_; rotate_left)
      (refine' PG.val rfl rfl (by intro _X; refine TL_load_el1 (u := atR l (i + 1)) rfl rfl (fun w h => h.sl hb) (atR_mod (by omega) (i + 1)) rfl ?_; exact qe) ?_; rotate_left)
      (refine' PG.val rfl rfl (by intro _X; refine TL_callV rfl rfl rfl (fun w h => e55 w (ha.mono h)) ?_; exact qe) ?_; rotate_left)
      iterate 3 (refine' pv ?_; rotate_left)
      (refine' pn ?_; rotate_left)
      exact PG.nil
    · rintro _ _ ⟨b9, _, rfl, rfl⟩; change TL _ _ _ _ _ _ _ _ _ _ _; refine r1 ?_; exact TL_nil TQ_endN
    rintro _ _ ⟨b9, _, rfl, rfl⟩
    change TL _ _ _ _ _ _ _ _ _ _ _
    repeat' (first | refine rn ?_ | (apply TL_box; exact rfl; exact rfl; exact rfl; intro _ _) | (apply TL_alloc; exact rfl; intro _ _) | (apply TL_buildSlice; exact rfl; exact rfl; exact rfl; exact rfl; exact rfl; intro _ _))
    refine TC_cond_dec rfl (fun g2 => ?_) (fun g2 => ?_)
    · repeat' (first | refine rn ?_ | (apply TL_box; exact rfl; exact rfl; exact rfl; intro _ _) | (apply TL_alloc; exact rfl; intro _ _) | (apply TL_buildSlice; exact rfl; exact rfl; exact rfl; exact rfl; exact rfl; intro _ _))
      rw [loopR_none hS hbad ⟨i, hlt, by unfold legR; omega⟩]
      exact TQ_ret2 Try.results25 (RV.celln rfl mm (by rfl)) (RV.tmp rfl) (fun w' hs => ⟨rfl, hs.below⟩)
    repeat' (first | refine rn ?_ | (apply TL_box; exact rfl; exact rfl; exact rfl; intro _ _) | (apply TL_alloc; exact rfl; intro _ _) | (apply TL_buildSlice; exact rfl; exact rfl; exact rfl; exact rfl; exact rfl; intro _ _))
    refine TQ_round (i + 1) ⟨hlt, fun j hj => ?_⟩ (by omega) sb (fun w h => h.sub (List.Sublist.cons _ (List.Sublist.refl _)))
    rcases Nat.lt_or_ge j i with h | h
    · exact hi.2 j h
    · have : j = i := by omega
      subst this; unfold legR; omega
  have hnone : ¬ ∃ i, i < l.length ∧ (legR S l i).2 = 0 := by
    rintro ⟨i, h, h'⟩; exact hi.2 i (by omega) h'
  clear hi g1
  repeat' (first | refine rn ?_ | (apply TL_box; exact rfl; exact rfl; exact rfl; intro _ _) | (apply TL_alloc; exact rfl; intro _ _) | (apply TL_buildSlice; exact rfl; exact rfl; exact rfl; exact rfl; exact rfl; intro _ _))
  rename_i b11 _
  refine TC_loop (σ := Nat) (fun i => i ≤ l.length ∧ ∀ j, j < i → ¬ (legR S l j).1.2 < (legR S l j).1.1) (fun i => [(1, .slice ao l.length c), (2, .pointer (some ⟨b2, 0, none⟩)), (4, .pointer (some ⟨b4, 0, none⟩)), (6, .int .i64 l.length), (11, .pointer (some ⟨b11, 0, none⟩)), (12, .int .i64 i)]) (fun i => (b11, .cells (encSp (sumL S l i)) 36) :: [(b4, .cells [.int .i64 0, .int .i64 0] 36), (b2, .cells (encSv S p) 26)]) (fun i => l.length - i) 0 ⟨Nat.zero_le _, fun j h => by omega⟩ sb (fun w h => h) (fun i hi => ?_)
  repeat' (first | refine rn ?_ | (apply TL_box; exact rfl; exact rfl; exact rfl; intro _ _) | (apply TL_alloc; exact rfl; intro _ _) | (apply TL_buildSlice; exact rfl; exact rfl; exact rfl; exact rfl; exact rfl; intro _ _))
  refine TC_cond_dec rfl (fun g1 => ?_) (fun g1 => ?_)
  · have hlt : i < l.length := by omega
    have e55 := fun w ha => c55 S p hS (atR l i) (atR l (i + 1)) w ha
    have hB := says_B hsh (atR l i) (atR l (i + 1))
    have hsB := sum_B hS l i
    have hst : sumL S l (i + 1) = ((sumL S l i).1 + (saysR S (atR l i) (atR l (i + 1))).1.1, (sumL S l i).2 + (saysR S (atR l i) (atR l (i + 1))).1.2) := rfl
    repeat' (first | refine rn ?_ | (apply TL_box; exact rfl; exact rfl; exact rfl; intro _ _) | (apply TL_alloc; exact rfl; intro _ _) | (apply TL_buildSlice; exact rfl; exact rfl; exact rfl; exact rfl; exact rfl; intro _ _))
    apply TC_draw3 17 15; kernel_rfl; exact Try.mixed
    · iterate 3 (refine' pv ?_; rotate_left)
      (refine' PG.val rfl rfl (by intro _X; refine TL_index i rfl rfl rfl (fun w h => h.sl hb) rfl hlt (Nat.le_refl _) ?_; exact qe) ?_; rotate_left)
      (refine' PG.val rfl rfl (by intro _X; refine TL_load_el1 (u := atR l i) rfl rfl (fun w h => h.sl hb) (atR_lt hlt) rfl ?_; exact qe) ?_; rotate_left)
      iterate 4 (refine' pv ?_; rotate_left)
      (refine' PG.val rfl rfl (by intro _X; refine TL_rem_nn rfl rfl rfl (by omega) (by omega) ?_; exact qe) ?_; rotate_left)
      (refine' PG.val rfl rfl (by intro _X; refine TL_index ((i + 1) % l.length) rfl rfl rfl (fun w h => h.sl hb) (by rw [Int.natCast_emod]; rfl) (Nat.mod_lt _ (by omega)) (Nat.le_refl _) ?_; exact qe) ?_; rotate_left)
      (refine' PG.val rfl rfl (by intro _X; refine TL_load_el1 (u := atR l (i + 1)) rfl rfl (fun w h => h.sl hb) (atR_mod (by omega) (i + 1)) rfl ?_; exact qe) ?_; rotate_left)
      (refine' PG.val rfl rfl (by intro _X; refine TL_callV rfl rfl rfl (fun w h => e55 w (ha.mono h)) ?_; exact qe) ?_; rotate_left)
      iterate 3 (refine' pv ?_; rotate_left)
      (refine' pn ?_; rotate_left)
      exact PG.nil
    · rintro _ _ ⟨b13, _, rfl, rfl⟩; change TL _ _ _ _ _ _ _ _ _ _ _; refine r1 ?_; exact TL_nil TQ_endN
    rintro _ _ ⟨b13, _, rfl, rfl⟩
    change TL _ _ _ _ _ _ _ _ _ _ _
    repeat' (first | refine rn ?_ | (apply TL_box; exact rfl; exact rfl; exact rfl; intro _ _) | (apply TL_alloc; exact rfl; intro _ _) | (apply TL_buildSlice; exact rfl; exact rfl; exact rfl; exact rfl; exact rfl; intro _ _))
    refine TC_cond_dec rfl (fun g2 => ?_) (fun g2 => ?_)
    · repeat' (first | refine rn ?_ | (apply TL_box; exact rfl; exact rfl; exact rfl; intro _ _) | (apply TL_alloc; exact rfl; intro _ _) | (apply TL_buildSlice; exact rfl; exact rfl; exact rfl; exact rfl; exact rfl; intro _ _))
      rw [loopR_apart hS hbad hnone ⟨i, hlt, by unfold legR; omega⟩]
      exact TQ_ret2 Try.results25 (RV.celln rfl mm (by rfl)) (RV.tmp rfl) (fun w' hs => ⟨rfl, hs.below⟩)
    repeat' (first | refine rn ?_ | (apply TL_box; exact rfl; exact rfl; exact rfl; intro _ _) | (apply TL_alloc; exact rfl; intro _ _) | (apply TL_buildSlice; exact rfl; exact rfl; exact rfl; exact rfl; exact rfl; intro _ _))
    refine TQ_round (i + 1) ⟨hlt, fun j hj => ?_⟩ (by omega) sb (fun w h => by (try dsimp only); rw [hst]; exact h.sub (by repeat (first | exact List.Sublist.refl _ | apply List.Sublist.cons_cons | apply List.Sublist.cons)))
    rcases Nat.lt_or_ge j i with h | h
    · exact hi.2 j h
    · have : j = i := by omega
      subst this; unfold legR; omega
  have hapart : ¬ ∃ i, i < l.length ∧ (legR S l i).1.2 < (legR S l i).1.1 := by
    rintro ⟨i, h, h'⟩; exact hi.2 i (by omega) h'
  have hk2 : i = l.length := by omega
  subst hk2
  rw [loopR_ok hS hbad hnone hapart]
  clear hi g1
  repeat' (first | refine rn ?_ | (apply TL_box; exact rfl; exact rfl; exact rfl; intro _ _) | (apply TL_alloc; exact rfl; intro _ _) | (apply TL_buildSlice; exact rfl; exact rfl; exact rfl; exact rfl; exact rfl; intro _ _))
  exact TQ_ret2 Try.results25 (RV.celln rfl mm (by rfl)) (RV.tmp rfl) (fun w' hs => ⟨rfl, hs.below⟩)
end Go.Proofs.Ytoolblbdmmiahaa
