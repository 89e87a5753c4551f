/- Walks: Loop. -/
import Derived.Test.YtoolblbdmmiahaaDoorL12
namespace Go.Proofs.YtoolblbdmmiahaaDoor
open Go Go.Eng Go.RowKit Go.Proofs
set_option maxHeartbeats 4000000
set_option maxRecDepth 10000
attribute [local irreducible] TL TC TQ

def legsL (S : Sv) (l : List Int) (i : Nat) : List Sp := (List.range i).map (fun j => (legR S l j).1)
def noneB (S : Sv) (l : List Int) (i : Nat) : Bool := (List.range i).any (fun j => decide ((legR S l j).2 = 0))
def apartB (S : Sv) (l : List Int) (i : Nat) : Bool := (List.range i).any (fun j => decide ((legR S l j).1.2 < (legR S l j).1.1))
theorem noneB_iff {S : Sv} {l : List Int} {i : Nat} : noneB S l i = true ↔ ∃ j, j < i ∧ (legR S l j).2 = 0 := by simp [noneB]
theorem apartB_iff {S : Sv} {l : List Int} {i : Nat} : apartB S l i = true ↔ ∃ j, j < i ∧ (legR S l j).1.2 < (legR S l j).1.1 := by simp [apartB]
theorem noneB_succ {S : Sv} {l : List Int} {i : Nat} : noneB S l (i + 1) = (noneB S l i || decide ((legR S l i).2 = 0)) := by simp [noneB, List.range_succ]
theorem apartB_succ {S : Sv} {l : List Int} {i : Nat} : apartB S l (i + 1) = (apartB S l i || decide ((legR S l i).1.2 < (legR S l i).1.1)) := by simp [apartB, List.range_succ]
theorem legsL_succ {S : Sv} {l : List Int} {i : Nat} : legsL S l (i + 1) = legsL S l i ++ [(legR S l i).1] := by simp [legsL, List.range_succ]
theorem c24 (S : Sv) (p : Pl) (l : List Int) (ao : Option Addr) (c : Nat) (hl : l.length ≤ 1000000) (h1 : S.shots.length ≤ 1000000) (h2 : S.marks.length ≤ 1000000) (h3 : S.thr.length ≤ 1000000) (w : World) (ha : SvAt w S p) (hb : Sl w 1 encI ao l) :
    Calls Tryd.prog 7 #[.agg (encSv S p).toArray, .slice ao l.length c] w (RetV w (.tuple #[.agg (encSp (loopR S l).1).toArray, .int .i64 (loopR S l).2])) := by
  refine enter (args := [.agg (encSv S p).toArray, .slice ao l.length c]) Tryd.func7 rfl Tryd.ntmps7 rfl (SH.refl _) ?_
  repeat' (first | refine rn ?_ | (apply TL_box; exact rfl; exact rfl; exact rfl; intro _ _) | (apply TL_alloc; exact rfl; intro _ _) | (apply TL_buildSlice; exact rfl; exact rfl; exact rfl; exact rfl; exact rfl; intro _ _))
  rename_i b2 _ b4 _
  refine TL_callV rfl rfl rfl (fun w h => c20 S p h1 h2 h3 w (ha.mono h)) ?_
  by_cases hS : OkSv S
  rotate_left
  · rw [checkS_no hS, loopR_inv hS]
    repeat' (first | refine rn ?_ | (apply TL_box; exact rfl; exact rfl; exact rfl; intro _ _) | (apply TL_alloc; exact rfl; intro _ _) | (apply TL_buildSlice; exact rfl; exact rfl; exact rfl; exact rfl; exact rfl; intro _ _))
    exact TQ_ret2 Tryd.results7 (RV.celln rfl mm (by rfl)) (RV.tmp rfl) (fun w' hs => ⟨rfl, hs.below⟩)
  rw [checkS_ok hS]
  repeat' (first | refine rn ?_ | (apply TL_box; exact rfl; exact rfl; exact rfl; intro _ _) | (apply TL_alloc; exact rfl; intro _ _) | (apply TL_buildSlice; exact rfl; exact rfl; exact rfl; exact rfl; exact rfl; intro _ _))
  rename_i b29 _
  refine TL_callV rfl rfl rfl (fun w h => c48 2 20 [(l.length : Int)] _ 1 (by simp) w (Sl.of_blk h mm (fun y _ => rfl) ⟨[], rfl⟩)) ?_
  have ein : (∀ x ∈ [(l.length : Int)], In x 2 20) ↔ In l.length 2 20 := by simp
  by_cases hin : In l.length 2 20
  rotate_left
  · rw [decide_eq_false (fun h => hin (ein.1 h)), loopR_bad hS (.inl hin)]
    repeat' (first | refine rn ?_ | (apply TL_box; exact rfl; exact rfl; exact rfl; intro _ _) | (apply TL_alloc; exact rfl; intro _ _) | (apply TL_buildSlice; exact rfl; exact rfl; exact rfl; exact rfl; exact rfl; intro _ _))
    exact TQ_ret2 Tryd.results7 (RV.celln rfl mm (by rfl)) (RV.tmp rfl) (fun w' hs => ⟨rfl, hs.below⟩)
  rw [decide_eq_true (ein.2 hin)]
  simp only [In] at hin
  have hp := hS.1
  simp only [In] at hp
  have hsh := hS.2.2.2.2.1
  have hl1 := hS.2.1
  repeat' (first | refine rn ?_ | (apply TL_box; exact rfl; exact rfl; exact rfl; intro _ _) | (apply TL_alloc; exact rfl; intro _ _) | (apply TL_buildSlice; exact rfl; exact rfl; exact rfl; exact rfl; exact rfl; intro _ _))
  refine TL_callV rfl rfl rfl (fun w h => c48 0 (S.pts - 1) l _ c (by omega) w (h.sl hb)) ?_
  by_cases hall : ∀ x ∈ l, In x 0 (S.pts - 1)
  rotate_left
  · rw [decide_eq_false hall, loopR_bad hS (.inr (fun hq => hall (fun x hx => by
      obtain ⟨i, hi⟩ := List.getElem?_of_mem hx
      have hlt := (List.getElem?_eq_some_iff.1 hi).1
      have e := atR_lt hlt
      rw [hi] at e; cases e
      exact (hq i hlt).1)))]
    repeat' (first | refine rn ?_ | (apply TL_box; exact rfl; exact rfl; exact rfl; intro _ _) | (apply TL_alloc; exact rfl; intro _ _) | (apply TL_buildSlice; exact rfl; exact rfl; exact rfl; exact rfl; exact rfl; intro _ _))
    exact TQ_ret2 Tryd.results7 (RV.celln rfl mm (by rfl)) (RV.tmp rfl) (fun w' hs => ⟨rfl, hs.below⟩)
  rw [decide_eq_true hall]
  have hallR : ∀ i, In (atR l i) 0 (S.pts - 1) := fun i => hall _ (List.mem_of_getElem? (atR_mod (by omega) i))
  repeat' (first | refine rn ?_ | (apply TL_box; exact rfl; exact rfl; exact rfl; intro _ _) | (apply TL_alloc; exact rfl; intro _ _) | (apply TL_buildSlice; exact rfl; exact rfl; exact rfl; exact rfl; exact rfl; intro _ _))
  refine TC_loop (σ := Nat × Option Addr × Nat × Hp) (fun q => (q.1 ≤ l.length ∧ ∀ j, j < q.1 → atR l j ≠ atR l (j + 1)) ∧ Row 24 2 encSp q.2.1 q.2.2.1 q.2.2.2 (legsL S l q.1)) (fun q => [(1, .slice ao l.length c), (2, .pointer (some ⟨b2, 0, none⟩)), (4, .pointer (some ⟨b4, 0, none⟩)), (41, .slice ao l.length c), (42, .int .i64 l.length), (7, .slice q.2.1 (legsL S l q.1).length q.2.2.1), (8, .bool (noneB S l q.1)), (9, .bool (apartB S l q.1)), (43, .int .i64 (q.1 : Nat))])
    (fun q => q.2.2.2 ++ ([(b4, .cells [.int .i64 0, .int .i64 0] 24), (b2, .cells (encSv S p) 32)] : Hp)) (fun q => l.length - q.1) (0, none, 0, []) ⟨⟨Nat.zero_le _, fun j h => by omega⟩, Row.nil _ _ _⟩ sb (fun w h => h.sub (List.Sublist.cons _ (List.Sublist.refl _))) (fun q hq => ?_)
  obtain ⟨i, so, sc, ob⟩ := q
  obtain ⟨⟨hi, hne⟩, hrow⟩ := hq
  dsimp only at hi hne hrow ⊢
  have hll : (legsL S l i).length = i := by simp [legsL]
  repeat' (first | refine rn ?_ | (apply TL_box; exact rfl; exact rfl; exact rfl; intro _ _) | (apply TL_alloc; exact rfl; intro _ _) | (apply TL_buildSlice; exact rfl; exact rfl; exact rfl; exact rfl; exact rfl; intro _ _))
  refine TC_cond_dec rfl (fun g1 => ?_) (fun g1 => ?_)
  · have hlt : i < l.length := by omega
    repeat' (first | refine rn ?_ | (apply TL_box; exact rfl; exact rfl; exact rfl; intro _ _) | (apply TL_alloc; exact rfl; intro _ _) | (apply TL_buildSlice; exact rfl; exact rfl; exact rfl; exact rfl; exact rfl; intro _ _))
    refine TL_index i rfl rfl rfl (fun w h => h.sl hb) rfl hlt (Nat.le_refl _) ?_
    refine TL_load_el1 (u := atR l i) rfl rfl (fun w h => h.sl hb) (atR_lt hlt) rfl ?_
    repeat' (first | refine rn ?_ | (apply TL_box; exact rfl; exact rfl; exact rfl; intro _ _) | (apply TL_alloc; exact rfl; intro _ _) | (apply TL_buildSlice; exact rfl; exact rfl; exact rfl; exact rfl; exact rfl; intro _ _))
    refine TL_index ((i + 1) % l.length) rfl rfl rfl (fun w h => h.sl hb) (by rw [Int.natCast_emod]; rfl) (Nat.mod_lt _ (by omega)) (Nat.le_refl _) ?_
    refine TL_load_el1 (u := atR l (i + 1)) rfl rfl (fun w h => h.sl hb) (atR_mod (by omega) (i + 1)) rfl ?_
    repeat' (first | refine rn ?_ | (apply TL_box; exact rfl; exact rfl; exact rfl; intro _ _) | (apply TL_alloc; exact rfl; intro _ _) | (apply TL_buildSlice; exact rfl; exact rfl; exact rfl; exact rfl; exact rfl; intro _ _))
    refine TC_cond_dec rfl (fun g2 => ?_) (fun g2 => ?_)
    · repeat' (first | refine rn ?_ | (apply TL_box; exact rfl; exact rfl; exact rfl; intro _ _) | (apply TL_alloc; exact rfl; intro _ _) | (apply TL_buildSlice; exact rfl; exact rfl; exact rfl; exact rfl; exact rfl; intro _ _))
      rw [loopR_bad hS (.inr (fun hq => (hq i hlt).2 g2))]
      exact TQ_ret2 Tryd.results7 (RV.celln rfl mm (by rfl)) (RV.tmp rfl) (fun w' hs => ⟨rfl, hs.below⟩)
    repeat' (first | refine rn ?_ | (apply TL_box; exact rfl; exact rfl; exact rfl; intro _ _) | (apply TL_alloc; exact rfl; intro _ _) | (apply TL_buildSlice; exact rfl; exact rfl; exact rfl; exact rfl; exact rfl; intro _ _))
    rename_i b13 _
    refine TC_loop (σ := Nat) (fun k => k ≤ S.shots.length) (fun k => [(1, .slice ao l.length c), (2, .pointer (some ⟨b2, 0, none⟩)), (4, .pointer (some ⟨b4, 0, none⟩)), (41, .slice ao l.length c), (42, .int .i64 l.length), (7, .slice so (legsL S l i).length sc), (8, .bool (noneB S l i)), (9, .bool (apartB S l i)), (43, .int .i64 (i : Nat)), (11, .int .i64 (atR l i)), (12, .int .i64 (atR l (i + 1))), (13, .pointer (some ⟨b13, 0, none⟩)), (14, .int .i64 ((saysK S (atR l i) (atR l (i + 1)) k).2 : Nat)), (62, .slice p.a1 S.shots.length p.c1), (63, .int .i64 S.shots.length), (64, .int .i64 (k : Nat))])
      (fun k => (b13, .cells (encSp (saysK S (atR l i) (atR l (i + 1)) k).1) 24) :: (ob ++ ([(b4, .cells [.int .i64 0, .int .i64 0] 24), (b2, .cells (encSv S p) 32)] : Hp))) (fun k => S.shots.length - k) 0 (Nat.zero_le _) sb (fun w h => h) (fun k hk => ?_)
    repeat' (first | refine rn ?_ | (apply TL_box; exact rfl; exact rfl; exact rfl; intro _ _) | (apply TL_alloc; exact rfl; intro _ _) | (apply TL_buildSlice; exact rfl; exact rfl; exact rfl; exact rfl; exact rfl; intro _ _))
    refine TC_cond_dec rfl (fun g3 => ?_) (fun g3 => ?_)
    · have hlk : k < S.shots.length := by omega
      obtain ⟨x, hx⟩ : ∃ x, S.shots[k]? = some x := ⟨_, List.getElem?_eq_getElem hlk⟩
      obtain ⟨⟨_, _, hnx⟩, hox⟩ := hsh x (List.mem_of_getElem? hx)
      simp only [Ord] at hox
      have hB := saysK_B hsh (atR l i) (atR l (i + 1)) k hk
      repeat' (first | refine rn ?_ | (apply TL_box; exact rfl; exact rfl; exact rfl; intro _ _) | (apply TL_alloc; exact rfl; intro _ _) | (apply TL_buildSlice; exact rfl; exact rfl; exact rfl; exact rfl; exact rfl; intro _ _))
      refine TL_index k rfl rfl rfl (fun w h => h.sl ha.s1) rfl hlk (Nat.le_refl _) ?_
      refine TL_load_eln (u := x) rfl rfl (fun w h => h.sl ha.s1) hx rfl ?_
      repeat' (first | refine rn ?_ | (apply TL_box; exact rfl; exact rfl; exact rfl; intro _ _) | (apply TL_alloc; exact rfl; intro _ _) | (apply TL_buildSlice; exact rfl; exact rfl; exact rfl; exact rfl; exact rfl; intro _ _))
      refine TL_gsplit_dec rfl rfl (fun g4 => ?_) (fun g4 => ?_)
      · repeat' (first | refine rn ?_ | (apply TL_box; exact rfl; exact rfl; exact rfl; intro _ _) | (apply TL_alloc; exact rfl; intro _ _) | (apply TL_buildSlice; exact rfl; exact rfl; exact rfl; exact rfl; exact rfl; intro _ _))
        refine TC_cond_dec rfl (fun g7 => ?_) (fun g7 => ?_)
        · repeat' (first | refine rn ?_ | (apply TL_box; exact rfl; exact rfl; exact rfl; intro _ _) | (apply TL_alloc; exact rfl; intro _ _) | (apply TL_buildSlice; exact rfl; exact rfl; exact rfl; exact rfl; exact rfl; intro _ _))
          have hst : saysK S (atR l i) (atR l (i + 1)) (k + 1) = ((max (saysK S (atR l i) (atR l (i + 1)) k).1.1 (-x.rise.2), min (saysK S (atR l i) (atR l (i + 1)) k).1.2 (-x.rise.1)), (saysK S (atR l i) (atR l (i + 1)) k).2 + 1) := by rw [saysK_succ hx]; unfold sayStep; first | (exfalso; omega) | (rw [if_pos (by omega)]) | (rw [if_neg (by omega), if_pos (by omega)]) | (rw [if_neg (by omega), if_neg (by omega)])
          refine TQ_round (k + 1) hlk (by omega) (by (try dsimp only); rw [hst]; exact sb) (fun w h => by (try dsimp only); rw [hst]; exact h.sub (List.Sublist.cons _ (List.Sublist.cons _ (List.Sublist.refl _))))
        · skip
          repeat' (first | refine rn ?_ | (apply TL_box; exact rfl; exact rfl; exact rfl; intro _ _) | (apply TL_alloc; exact rfl; intro _ _) | (apply TL_buildSlice; exact rfl; exact rfl; exact rfl; exact rfl; exact rfl; intro _ _))
          refine TL_gsplit_dec rfl rfl (fun g5 => ?_) (fun g5 => ?_)
          · repeat' (first | refine rn ?_ | (apply TL_box; exact rfl; exact rfl; exact rfl; intro _ _) | (apply TL_alloc; exact rfl; intro _ _) | (apply TL_buildSlice; exact rfl; exact rfl; exact rfl; exact rfl; exact rfl; intro _ _))
            have hst : saysK S (atR l i) (atR l (i + 1)) (k + 1) = saysK S (atR l i) (atR l (i + 1)) k := by rw [saysK_succ hx]; unfold sayStep; first | (exfalso; omega) | (rw [if_pos (by omega)]) | (rw [if_neg (by omega), if_pos (by omega)]) | (rw [if_neg (by omega), if_neg (by omega)])
            refine TQ_round (k + 1) hlk (by omega) (by (try dsimp only); rw [hst]; exact sb) (fun w h => by (try dsimp only); rw [hst]; exact h.sub (List.Sublist.cons _ (List.Sublist.cons _ (List.Sublist.refl _))))
          · repeat' (first | refine rn ?_ | (apply TL_box; exact rfl; exact rfl; exact rfl; intro _ _) | (apply TL_alloc; exact rfl; intro _ _) | (apply TL_buildSlice; exact rfl; exact rfl; exact rfl; exact rfl; exact rfl; intro _ _))
            refine TC_cond_dec rfl (fun g6 => ?_) (fun g6 => ?_)
            · repeat' (first | refine rn ?_ | (apply TL_box; exact rfl; exact rfl; exact rfl; intro _ _) | (apply TL_alloc; exact rfl; intro _ _) | (apply TL_buildSlice; exact rfl; exact rfl; exact rfl; exact rfl; exact rfl; intro _ _))
              have hst : saysK S (atR l i) (atR l (i + 1)) (k + 1) = saysK S (atR l i) (atR l (i + 1)) k := by rw [saysK_succ hx]; unfold sayStep; first | (exfalso; omega) | (rw [if_pos (by omega)]) | (rw [if_neg (by omega), if_pos (by omega)]) | (rw [if_neg (by omega), if_neg (by omega)])
              refine TQ_round (k + 1) hlk (by omega) (by (try dsimp only); rw [hst]; exact sb) (fun w h => by (try dsimp only); rw [hst]; exact h.sub (List.Sublist.cons _ (List.Sublist.cons _ (List.Sublist.refl _))))
            · repeat' (first | refine rn ?_ | (apply TL_box; exact rfl; exact rfl; exact rfl; intro _ _) | (apply TL_alloc; exact rfl; intro _ _) | (apply TL_buildSlice; exact rfl; exact rfl; exact rfl; exact rfl; exact rfl; intro _ _))
              have hst : saysK S (atR l i) (atR l (i + 1)) (k + 1) = ((max (saysK S (atR l i) (atR l (i + 1)) k).1.1 x.rise.1, min (saysK S (atR l i) (atR l (i + 1)) k).1.2 x.rise.2), (saysK S (atR l i) (atR l (i + 1)) k).2 + 1) := by rw [saysK_succ hx]; unfold sayStep; first | (exfalso; omega) | (rw [if_pos (by omega)]) | (rw [if_neg (by omega), if_pos (by omega)]) | (rw [if_neg (by omega), if_neg (by omega)])
              refine TQ_round (k + 1) hlk (by omega) (by (try dsimp only); rw [hst]; exact sb) (fun w h => by (try dsimp only); rw [hst]; exact h.sub (List.Sublist.cons _ (List.Sublist.cons _ (List.Sublist.refl _))))
      · repeat' (first | refine rn ?_ | (apply TL_box; exact rfl; exact rfl; exact rfl; intro _ _) | (apply TL_alloc; exact rfl; intro _ _) | (apply TL_buildSlice; exact rfl; exact rfl; exact rfl; exact rfl; exact rfl; intro _ _))
        repeat' (first | refine rn ?_ | (apply TL_box; exact rfl; exact rfl; exact rfl; intro _ _) | (apply TL_alloc; exact rfl; intro _ _) | (apply TL_buildSlice; exact rfl; exact rfl; exact rfl; exact rfl; exact rfl; intro _ _))
        refine TL_gsplit_dec rfl rfl (fun g5 => ?_) (fun g5 => ?_)
        · repeat' (first | refine rn ?_ | (apply TL_box; exact rfl; exact rfl; exact rfl; intro _ _) | (apply TL_alloc; exact rfl; intro _ _) | (apply TL_buildSlice; exact rfl; exact rfl; exact rfl; exact rfl; exact rfl; intro _ _))
          have hst : saysK S (atR l i) (atR l (i + 1)) (k + 1) = saysK S (atR l i) (atR l (i + 1)) k := by rw [saysK_succ hx]; unfold sayStep; first | (exfalso; omega) | (rw [if_pos (by omega)]) | (rw [if_neg (by omega), if_pos (by omega)]) | (rw [if_neg (by omega), if_neg (by omega)])
          refine TQ_round (k + 1) hlk (by omega) (by (try dsimp only); rw [hst]; exact sb) (fun w h => by (try dsimp only); rw [hst]; exact h.sub (List.Sublist.cons _ (List.Sublist.cons _ (List.Sublist.refl _))))
        · repeat' (first | refine rn ?_ | (apply TL_box; exact rfl; exact rfl; exact rfl; intro _ _) | (apply TL_alloc; exact rfl; intro _ _) | (apply TL_buildSlice; exact rfl; exact rfl; exact rfl; exact rfl; exact rfl; intro _ _))
          refine TC_cond_dec rfl (fun g6 => ?_) (fun g6 => ?_)
          · repeat' (first | refine rn ?_ | (apply TL_box; exact rfl; exact rfl; exact rfl; intro _ _) | (apply TL_alloc; exact rfl; intro _ _) | (apply TL_buildSlice; exact rfl; exact rfl; exact rfl; exact rfl; exact rfl; intro _ _))
            have hst : saysK S (atR l i) (atR l (i + 1)) (k + 1) = saysK S (atR l i) (atR l (i + 1)) k := by rw [saysK_succ hx]; unfold sayStep; first | (exfalso; omega) | (rw [if_pos (by omega)]) | (rw [if_neg (by omega), if_pos (by omega)]) | (rw [if_neg (by omega), if_neg (by omega)])
            refine TQ_round (k + 1) hlk (by omega) (by (try dsimp only); rw [hst]; exact sb) (fun w h => by (try dsimp only); rw [hst]; exact h.sub (List.Sublist.cons _ (List.Sublist.cons _ (List.Sublist.refl _))))
          · repeat' (first | refine rn ?_ | (apply TL_box; exact rfl; exact rfl; exact rfl; intro _ _) | (apply TL_alloc; exact rfl; intro _ _) | (apply TL_buildSlice; exact rfl; exact rfl; exact rfl; exact rfl; exact rfl; intro _ _))
            have hst : saysK S (atR l i) (atR l (i + 1)) (k + 1) = ((max (saysK S (atR l i) (atR l (i + 1)) k).1.1 x.rise.1, min (saysK S (atR l i) (atR l (i + 1)) k).1.2 x.rise.2), (saysK S (atR l i) (atR l (i + 1)) k).2 + 1) := by rw [saysK_succ hx]; unfold sayStep; first | (exfalso; omega) | (rw [if_pos (by omega)]) | (rw [if_neg (by omega), if_pos (by omega)]) | (rw [if_neg (by omega), if_neg (by omega)])
            refine TQ_round (k + 1) hlk (by omega) (by (try dsimp only); rw [hst]; exact sb) (fun w h => by (try dsimp only); rw [hst]; exact h.sub (List.Sublist.cons _ (List.Sublist.cons _ (List.Sublist.refl _))))
    have hk2 : k = S.shots.length := by omega
    subst hk2
    clear hk g3
    rw [saysK_all]
    have hB := says_B hsh (atR l i) (atR l (i + 1))
    have hs1 : legsL S l (i + 1) = legsL S l i ++ [(saysR S (atR l i) (atR l (i + 1))).1] := legsL_succ
    have hn1 : noneB S l (i + 1) = (noneB S l i || decide (((saysR S (atR l i) (atR l (i + 1))).2 : Int) = 0)) := by
      rw [noneB_succ]; congr 1; unfold legR; exact decide_eq_decide.2 (by omega)
    have hp1 : apartB S l (i + 1) = (apartB S l i || decide ((saysR S (atR l i) (atR l (i + 1))).1.2 < (saysR S (atR l i) (atR l (i + 1))).1.1)) := apartB_succ
    have hne1 : ∀ j, j < i + 1 → atR l j ≠ atR l (j + 1) := fun j hj => by
      rcases Nat.lt_or_ge j i with h | h
      · exact hne j h
      · have : j = i := by omega
        subst this; exact g2
    cases hnb : noneB S l i <;> cases hpb : apartB S l i
    · rw [hnb, Bool.false_or] at hn1
      rw [hpb, Bool.false_or] at hp1
      repeat' (first | refine rn ?_ | (apply TL_box; exact rfl; exact rfl; exact rfl; intro _ _) | (apply TL_alloc; exact rfl; intro _ _) | (apply TL_buildSlice; exact rfl; exact rfl; exact rfl; exact rfl; exact rfl; intro _ _))
      refine TL_append (l := legsL S l i) (l2 := [(saysR S (atR l i) (atR l (i + 1))).1]) (enc := encSp) (G := _) rfl (by rfl) rfl rfl rfl rfl rfl hrow (pm_cons (pm_cons pm_here)) (fun w h => Sl.of_blk h mm (fun _ _ => rfl) ⟨[], by rfl⟩) (fun u _ => rfl) (by simp only [List.length_singleton]; omega) (by simp only [List.length_singleton, maxLen]; omega) (fun so' sc' ob' hrow' => ?_)
      rw [← hs1] at hrow' ⊢
      repeat' (first | refine rn ?_ | (apply TL_box; exact rfl; exact rfl; exact rfl; intro _ _) | (apply TL_alloc; exact rfl; intro _ _) | (apply TL_buildSlice; exact rfl; exact rfl; exact rfl; exact rfl; exact rfl; intro _ _))
      refine TQ_round (i + 1, so', sc', ob') ⟨⟨hlt, hne1⟩, hrow'⟩ (by dsimp only; omega) (by (try dsimp only); rw [hn1, hp1]; exact sb) (fun w h => h.sub (List.Sublist.append_left (List.Sublist.cons _ (List.Sublist.cons _ (List.Sublist.refl _))) _))
    · rw [hnb, Bool.false_or] at hn1
      rw [hpb, Bool.true_or] at hp1
      repeat' (first | refine rn ?_ | (apply TL_box; exact rfl; exact rfl; exact rfl; intro _ _) | (apply TL_alloc; exact rfl; intro _ _) | (apply TL_buildSlice; exact rfl; exact rfl; exact rfl; exact rfl; exact rfl; intro _ _))
      refine TL_append (l := legsL S l i) (l2 := [(saysR S (atR l i) (atR l (i + 1))).1]) (enc := encSp) (G := _) rfl (by rfl) rfl rfl rfl rfl rfl hrow (pm_cons (pm_cons pm_here)) (fun w h => Sl.of_blk h mm (fun _ _ => rfl) ⟨[], by rfl⟩) (fun u _ => rfl) (by simp only [List.length_singleton]; omega) (by simp only [List.length_singleton, maxLen]; omega) (fun so' sc' ob' hrow' => ?_)
      rw [← hs1] at hrow' ⊢
      repeat' (first | refine rn ?_ | (apply TL_box; exact rfl; exact rfl; exact rfl; intro _ _) | (apply TL_alloc; exact rfl; intro _ _) | (apply TL_buildSlice; exact rfl; exact rfl; exact rfl; exact rfl; exact rfl; intro _ _))
      refine TQ_round (i + 1, so', sc', ob') ⟨⟨hlt, hne1⟩, hrow'⟩ (by dsimp only; omega) (by (try dsimp only); rw [hn1, hp1]; exact sb) (fun w h => h.sub (List.Sublist.append_left (List.Sublist.cons _ (List.Sublist.cons _ (List.Sublist.refl _))) _))
    · rw [hnb, Bool.true_or] at hn1
      rw [hpb, Bool.false_or] at hp1
      repeat' (first | refine rn ?_ | (apply TL_box; exact rfl; exact rfl; exact rfl; intro _ _) | (apply TL_alloc; exact rfl; intro _ _) | (apply TL_buildSlice; exact rfl; exact rfl; exact rfl; exact rfl; exact rfl; intro _ _))
      refine TL_append (l := legsL S l i) (l2 := [(saysR S (atR l i) (atR l (i + 1))).1]) (enc := encSp) (G := _) rfl (by rfl) rfl rfl rfl rfl rfl hrow (pm_cons (pm_cons pm_here)) (fun w h => Sl.of_blk h mm (fun _ _ => rfl) ⟨[], by rfl⟩) (fun u _ => rfl) (by simp only [List.length_singleton]; omega) (by simp only [List.length_singleton, maxLen]; omega) (fun so' sc' ob' hrow' => ?_)
      rw [← hs1] at hrow' ⊢
      repeat' (first | refine rn ?_ | (apply TL_box; exact rfl; exact rfl; exact rfl; intro _ _) | (apply TL_alloc; exact rfl; intro _ _) | (apply TL_buildSlice; exact rfl; exact rfl; exact rfl; exact rfl; exact rfl; intro _ _))
      refine TQ_round (i + 1, so', sc', ob') ⟨⟨hlt, hne1⟩, hrow'⟩ (by dsimp only; omega) (by (try dsimp only); rw [hn1, hp1]; exact sb) (fun w h => h.sub (List.Sublist.append_left (List.Sublist.cons _ (List.Sublist.cons _ (List.Sublist.refl _))) _))
    · rw [hnb, Bool.true_or] at hn1
      rw [hpb, Bool.true_or] at hp1
      repeat' (first | refine rn ?_ | (apply TL_box; exact rfl; exact rfl; exact rfl; intro _ _) | (apply TL_alloc; exact rfl; intro _ _) | (apply TL_buildSlice; exact rfl; exact rfl; exact rfl; exact rfl; exact rfl; intro _ _))
      refine TL_append (l := legsL S l i) (l2 := [(saysR S (atR l i) (atR l (i + 1))).1]) (enc := encSp) (G := _) rfl (by rfl) rfl rfl rfl rfl rfl hrow (pm_cons (pm_cons pm_here)) (fun w h => Sl.of_blk h mm (fun _ _ => rfl) ⟨[], by rfl⟩) (fun u _ => rfl) (by simp only [List.length_singleton]; omega) (by simp only [List.length_singleton, maxLen]; omega) (fun so' sc' ob' hrow' => ?_)
      rw [← hs1] at hrow' ⊢
      repeat' (first | refine rn ?_ | (apply TL_box; exact rfl; exact rfl; exact rfl; intro _ _) | (apply TL_alloc; exact rfl; intro _ _) | (apply TL_buildSlice; exact rfl; exact rfl; exact rfl; exact rfl; exact rfl; intro _ _))
      refine TQ_round (i + 1, so', sc', ob') ⟨⟨hlt, hne1⟩, hrow'⟩ (by dsimp only; omega) (by (try dsimp only); rw [hn1, hp1]; exact sb) (fun w h => h.sub (List.Sublist.append_left (List.Sublist.cons _ (List.Sublist.cons _ (List.Sublist.refl _))) _))
  have hk2 : i = l.length := by omega
  subst hk2
  have hbad : ¬ badPts S l := by
    unfold badPts
    rw [not_or]
    exact ⟨not_not_intro hin, not_not_intro (fun i hi' => ⟨hallR i, hne i hi'⟩)⟩
  clear hi g1
  cases hnb : noneB S l l.length with
  | true =>
    repeat' (first | refine rn ?_ | (apply TL_box; exact rfl; exact rfl; exact rfl; intro _ _) | (apply TL_alloc; exact rfl; intro _ _) | (apply TL_buildSlice; exact rfl; exact rfl; exact rfl; exact rfl; exact rfl; intro _ _))
    rw [loopR_none hS hbad (noneB_iff.1 hnb)]
    exact TQ_ret2 Tryd.results7 (RV.celln rfl mm (by rfl)) (RV.tmp rfl) (fun w' hs => ⟨rfl, hs.below⟩)
  | false =>
  have hnone : ¬ ∃ i, i < l.length ∧ (legR S l i).2 = 0 := fun h => by rw [noneB_iff.2 h] at hnb; cases hnb
  cases hpb : apartB S l l.length with
  | true =>
    repeat' (first | refine rn ?_ | (apply TL_box; exact rfl; exact rfl; exact rfl; intro _ _) | (apply TL_alloc; exact rfl; intro _ _) | (apply TL_buildSlice; exact rfl; exact rfl; exact rfl; exact rfl; exact rfl; intro _ _))
    rw [loopR_apart hS hbad hnone (apartB_iff.1 hpb)]
    exact TQ_ret2 Tryd.results7 (RV.celln rfl mm (by rfl)) (RV.tmp rfl) (fun w' hs => ⟨rfl, hs.below⟩)
  | false =>
  have hapart : ¬ ∃ i, i < l.length ∧ (legR S l i).1.2 < (legR S l i).1.1 := fun h => by rw [apartB_iff.2 h] at hpb; cases hpb
  rw [loopR_ok hS hbad hnone hapart]
  repeat' (first | refine rn ?_ | (apply TL_box; exact rfl; exact rfl; exact rfl; intro _ _) | (apply TL_alloc; exact rfl; intro _ _) | (apply TL_buildSlice; exact rfl; exact rfl; exact rfl; exact rfl; exact rfl; intro _ _))
  rename_i b18 _
  refine TC_loop (σ := Nat) (fun i => i ≤ l.length) (fun i => [(1, .slice ao l.length c), (2, .pointer (some ⟨b2, 0, none⟩)), (4, .pointer (some ⟨b4, 0, none⟩)), (18, .pointer (some ⟨b18, 0, none⟩)), (139, .slice so (legsL S l l.length).length sc), (140, .int .i64 (legsL S l l.length).length), (141, .int .i64 (i : Nat))]) (fun i => (b18, .cells (encSp (sumL S l i)) 24) :: (ob ++ ([(b4, .cells [.int .i64 0, .int .i64 0] 24), (b2, .cells (encSv S p) 32)] : Hp))) (fun i => l.length - i) 0 (Nat.zero_le _) sb (fun w h => h) (fun i hi => ?_)
  repeat' (first | refine rn ?_ | (apply TL_box; exact rfl; exact rfl; exact rfl; intro _ _) | (apply TL_alloc; exact rfl; intro _ _) | (apply TL_buildSlice; exact rfl; exact rfl; exact rfl; exact rfl; exact rfl; intro _ _))
  refine TC_cond_dec rfl (fun g1 => ?_) (fun g1 => ?_)
  · have hlt : i < l.length := by omega
    have hx : (legsL S l l.length)[i]? = some (legR S l i).1 := by simp [legsL, hlt]
    have hB := says_B hsh (atR l i) (atR l (i + 1))
    have hsB := sum_B hS l i
    have hst : sumL S l (i + 1) = ((sumL S l i).1 + (saysR S (atR l i) (atR l (i + 1))).1.1, (sumL S l i).2 + (saysR S (atR l i) (atR l (i + 1))).1.2) := rfl
    unfold legR at hx
    repeat' (first | refine rn ?_ | (apply TL_box; exact rfl; exact rfl; exact rfl; intro _ _) | (apply TL_alloc; exact rfl; intro _ _) | (apply TL_buildSlice; exact rfl; exact rfl; exact rfl; exact rfl; exact rfl; intro _ _))
    refine TL_index i rfl rfl rfl (fun w h => hrow.sl h (fun x hx => by repeat (first | exact List.mem_append_left _ hx | apply List.mem_append_right | apply List.mem_cons_of_mem))) rfl (by omega) (Nat.le_refl _) ?_
    refine TL_load_eln (u := (saysR S (atR l i) (atR l (i + 1))).1) rfl rfl (fun w h => hrow.sl h (fun x hx => by repeat (first | exact List.mem_append_left _ hx | apply List.mem_append_right | apply List.mem_cons_of_mem))) hx rfl ?_
    repeat' (first | refine rn ?_ | (apply TL_box; exact rfl; exact rfl; exact rfl; intro _ _) | (apply TL_alloc; exact rfl; intro _ _) | (apply TL_buildSlice; exact rfl; exact rfl; exact rfl; exact rfl; exact rfl; intro _ _))
    refine TQ_round (i + 1) hlt (by omega) sb (fun w h => by (try dsimp only); rw [hst]; exact h.sub (List.Sublist.cons _ (List.Sublist.refl _)))
  have hk2 : i = l.length := by omega
  subst hk2
  clear hi g1
  repeat' (first | refine rn ?_ | (apply TL_box; exact rfl; exact rfl; exact rfl; intro _ _) | (apply TL_alloc; exact rfl; intro _ _) | (apply TL_buildSlice; exact rfl; exact rfl; exact rfl; exact rfl; exact rfl; intro _ _))
  exact TQ_ret2 Tryd.results7 (RV.celln rfl mm (by rfl)) (RV.tmp rfl) (fun w' hs => ⟨rfl, hs.below⟩)
end Go.Proofs.YtoolblbdmmiahaaDoor
