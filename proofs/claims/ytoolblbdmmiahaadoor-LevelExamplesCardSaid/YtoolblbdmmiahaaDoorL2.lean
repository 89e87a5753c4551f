/- Walks: Check, of the program and of the reference. -/
import Derived.Test.YtoolblbdmmiahaaDoorL1
namespace Go.Proofs.YtoolblbdmmiahaaDoor
open Go Go.Eng Go.RowKit Go.Proofs
set_option maxHeartbeats 4000000
set_option maxRecDepth 10000
attribute [local irreducible] TL TC TQ

/-- The lists of a survey lie where p says. -/
structure SvAt (w : World) (S : Sv) (p : Pl) : Prop where
  s1 : Sl w 4 encSh p.a1 S.shots
  s2 : Sl w 3 encMk p.a2 S.marks
  s3 : Sl w 4 encTh p.a3 S.thr
theorem SvAt.mono {w0 w : World} {H : Hp} {S : Sv} {p : Pl} (h : SvAt w0 S p) (hs : SH w0.heap.size w0 w H) : SvAt w S p := ⟨hs.sl h.s1, hs.sl h.s2, hs.sl h.s3⟩
def checkS (S : Sv) : Int := if OkSv S then 0 else 10
theorem checkS_ok {S : Sv} (h : OkSv S) : checkS S = 0 := if_pos h
theorem checkS_no {S : Sv} (h : ¬ OkSv S) : checkS S = 10 := if_neg h
theorem c20 (S : Sv) (p : Pl) (h1 : S.shots.length ≤ 1000000) (h2 : S.marks.length ≤ 1000000) (h3 : S.thr.length ≤ 1000000) (w : World) (ha : SvAt w S p) :
    Calls Tryd.prog 15 #[.agg (encSv S p).toArray] w (RetV w (.int .i64 (checkS S))) := by
  refine enter (args := [.agg (encSv S p).toArray]) Tryd.func15 rfl Tryd.ntmps15 rfl (SH.refl _) ?_
  repeat' (first | refine rn ?_ | (apply TL_box; exact rfl; exact rfl; exact rfl; intro _ _) | (apply TL_alloc; exact rfl; intro _ _) | (apply TL_buildSlice; exact rfl; exact rfl; exact rfl; exact rfl; exact rfl; intro _ _))
  rename_i b1 _ b12 _
  refine TL_callV rfl rfl rfl (fun w h => c48 1 20 [S.pts] _ 1 (by simp) w (Sl.of_blk h mm (fun y _ => rfl) ⟨[], rfl⟩)) ?_
  repeat' (first | refine rn ?_ | (apply TL_box; exact rfl; exact rfl; exact rfl; intro _ _) | (apply TL_alloc; exact rfl; intro _ _) | (apply TL_buildSlice; exact rfl; exact rfl; exact rfl; exact rfl; exact rfl; intro _ _))
  refine TL_gsplit_dec rfl rfl (fun g1 => ?_) (fun g1 => ?_)
  · repeat' (first | refine rn ?_ | (apply TL_box; exact rfl; exact rfl; exact rfl; intro _ _) | (apply TL_alloc; exact rfl; intro _ _) | (apply TL_buildSlice; exact rfl; exact rfl; exact rfl; exact rfl; exact rfl; intro _ _))
    have e : ¬ OkSv S := fun h => g1 (by simpa using h.1)
    rw [checkS_no e]
    exact TQ_ret1 Tryd.results15 (RV.tmp rfl) (fun w' hs => ⟨rfl, hs.below⟩)
  repeat' (first | refine rn ?_ | (apply TL_box; exact rfl; exact rfl; exact rfl; intro _ _) | (apply TL_alloc; exact rfl; intro _ _) | (apply TL_buildSlice; exact rfl; exact rfl; exact rfl; exact rfl; exact rfl; intro _ _))
  refine TL_gsplit_dec rfl rfl (fun g2 => ?_) (fun g2 => ?_)
  · repeat' (first | refine rn ?_ | (apply TL_box; exact rfl; exact rfl; exact rfl; intro _ _) | (apply TL_alloc; exact rfl; intro _ _) | (apply TL_buildSlice; exact rfl; exact rfl; exact rfl; exact rfl; exact rfl; intro _ _))
    have e : ¬ OkSv S := fun h => by have := h.2.1; omega
    rw [checkS_no e]
    exact TQ_ret1 Tryd.results15 (RV.tmp rfl) (fun w' hs => ⟨rfl, hs.below⟩)
  repeat' (first | refine rn ?_ | (apply TL_box; exact rfl; exact rfl; exact rfl; intro _ _) | (apply TL_alloc; exact rfl; intro _ _) | (apply TL_buildSlice; exact rfl; exact rfl; exact rfl; exact rfl; exact rfl; intro _ _))
  refine TL_gsplit_dec rfl rfl (fun g3 => ?_) (fun g3 => ?_)
  · repeat' (first | refine rn ?_ | (apply TL_box; exact rfl; exact rfl; exact rfl; intro _ _) | (apply TL_alloc; exact rfl; intro _ _) | (apply TL_buildSlice; exact rfl; exact rfl; exact rfl; exact rfl; exact rfl; intro _ _))
    have e : ¬ OkSv S := fun h => by have := h.2.2.1; omega
    rw [checkS_no e]
    exact TQ_ret1 Tryd.results15 (RV.tmp rfl) (fun w' hs => ⟨rfl, hs.below⟩)
  repeat' (first | refine rn ?_ | (apply TL_box; exact rfl; exact rfl; exact rfl; intro _ _) | (apply TL_alloc; exact rfl; intro _ _) | (apply TL_buildSlice; exact rfl; exact rfl; exact rfl; exact rfl; exact rfl; intro _ _))
  refine TC_cond_dec rfl (fun g4 => ?_) (fun g4 => ?_)
  · repeat' (first | refine rn ?_ | (apply TL_box; exact rfl; exact rfl; exact rfl; intro _ _) | (apply TL_alloc; exact rfl; intro _ _) | (apply TL_buildSlice; exact rfl; exact rfl; exact rfl; exact rfl; exact rfl; intro _ _))
    have e : ¬ OkSv S := fun h => by have := h.2.2.2.1; omega
    rw [checkS_no e]
    exact TQ_ret1 Tryd.results15 (RV.tmp rfl) (fun w' hs => ⟨rfl, hs.below⟩)
  have hpts : In S.pts 1 20 := by simpa using Classical.not_not.1 g1
  have hp : In S.pts (-1000000) 1000000 := by simp only [In] at hpts ⊢; omega
  have hpp := hpts
  simp only [In] at hpp
  repeat' (first | refine rn ?_ | (apply TL_box; exact rfl; exact rfl; exact rfl; intro _ _) | (apply TL_alloc; exact rfl; intro _ _) | (apply TL_buildSlice; exact rfl; exact rfl; exact rfl; exact rfl; exact rfl; intro _ _))
  refine TC_loop (σ := Nat) (fun k => k ≤ S.shots.length ∧ ∀ (i : Nat) x, i < k → S.shots[i]? = some x → OkSh S.pts x) (fun k => [(1, .pointer (some ⟨b1, 0, none⟩)), (3, .func (.func 26) #[] #[.pointer (some ⟨b1, 0, none⟩)]), (35, .slice p.a1 S.shots.length p.c1), (36, .int .i64 S.shots.length), (37, .int .i64 k)]) (fun _ => [(b1, .cells (encSv S p) 32)]) (fun k => S.shots.length - k) 0 ⟨Nat.zero_le _, fun i x h => by omega⟩ sb (fun w h => h.sub (by repeat (first | exact List.Sublist.refl _ | apply List.Sublist.cons))) (fun k hk => ?_)
  repeat' (first | refine rn ?_ | (apply TL_box; exact rfl; exact rfl; exact rfl; intro _ _) | (apply TL_alloc; exact rfl; intro _ _) | (apply TL_buildSlice; exact rfl; exact rfl; exact rfl; exact rfl; exact rfl; intro _ _))
  refine TC_cond_dec rfl (fun h1' => ?_) (fun h1' => ?_)
  · have hlt : k < S.shots.length := by omega
    obtain ⟨x, hx⟩ : ∃ x, S.shots[k]? = some x := ⟨_, List.getElem?_eq_getElem hlt⟩
    repeat' (first | refine rn ?_ | (apply TL_box; exact rfl; exact rfl; exact rfl; intro _ _) | (apply TL_alloc; exact rfl; intro _ _) | (apply TL_buildSlice; exact rfl; exact rfl; exact rfl; exact rfl; exact rfl; intro _ _))
    refine TL_index k rfl rfl rfl (fun w h => h.sl ha.s1) rfl hlt (Nat.le_refl _) ?_
    refine TL_load_eln (u := x) rfl rfl (fun w h => h.sl ha.s1) hx rfl ?_
    repeat' (first | refine rn ?_ | (apply TL_box; exact rfl; exact rfl; exact rfl; intro _ _) | (apply TL_alloc; exact rfl; intro _ _) | (apply TL_buildSlice; exact rfl; exact rfl; exact rfl; exact rfl; exact rfl; intro _ _))
    refine TL_call rfl rfl rfl _ _ _ (fun w h => c51 S p hp x.fr x.to b1 _ mm w h) (fun _ _ => ?_)
    repeat' (first | refine rn ?_ | (apply TL_box; exact rfl; exact rfl; exact rfl; intro _ _) | (apply TL_alloc; exact rfl; intro _ _) | (apply TL_buildSlice; exact rfl; exact rfl; exact rfl; exact rfl; exact rfl; intro _ _))
    refine TL_gsplit_dec rfl rfl (fun g5 => ?_) (fun g5 => ?_)
    · repeat' (first | refine rn ?_ | (apply TL_box; exact rfl; exact rfl; exact rfl; intro _ _) | (apply TL_alloc; exact rfl; intro _ _) | (apply TL_buildSlice; exact rfl; exact rfl; exact rfl; exact rfl; exact rfl; intro _ _))
      have e : ¬ OkSv S := fun h => g5 (h.2.2.2.2.1 x (List.mem_of_getElem? hx)).1
      rw [checkS_no e]
      exact TQ_ret1 Tryd.results15 (RV.tmp rfl) (fun w' hs => ⟨rfl, hs.below⟩)
    repeat' (first | refine rn ?_ | (apply TL_box; exact rfl; exact rfl; exact rfl; intro _ _) | (apply TL_alloc; exact rfl; intro _ _) | (apply TL_buildSlice; exact rfl; exact rfl; exact rfl; exact rfl; exact rfl; intro _ _))
    refine TL_callV rfl rfl rfl (fun w _ => c52 x.rise (-20000000) 20000000 w) ?_
    repeat' (first | refine rn ?_ | (apply TL_box; exact rfl; exact rfl; exact rfl; intro _ _) | (apply TL_alloc; exact rfl; intro _ _) | (apply TL_buildSlice; exact rfl; exact rfl; exact rfl; exact rfl; exact rfl; intro _ _))
    refine TC_cond_dec rfl (fun g6 => ?_) (fun g6 => ?_)
    · repeat' (first | refine rn ?_ | (apply TL_box; exact rfl; exact rfl; exact rfl; intro _ _) | (apply TL_alloc; exact rfl; intro _ _) | (apply TL_buildSlice; exact rfl; exact rfl; exact rfl; exact rfl; exact rfl; intro _ _))
      have e : ¬ OkSv S := fun h => g6 (h.2.2.2.2.1 x (List.mem_of_getElem? hx)).2
      rw [checkS_no e]
      exact TQ_ret1 Tryd.results15 (RV.tmp rfl) (fun w' hs => ⟨rfl, hs.below⟩)
    repeat' (first | refine rn ?_ | (apply TL_box; exact rfl; exact rfl; exact rfl; intro _ _) | (apply TL_alloc; exact rfl; intro _ _) | (apply TL_buildSlice; exact rfl; exact rfl; exact rfl; exact rfl; exact rfl; intro _ _))
    refine TQ_round (k + 1) ⟨hlt, fun i y hi hy => ?_⟩ (by omega) sb (fun w h => h.sub (by repeat (first | exact List.Sublist.refl _ | apply List.Sublist.cons)))
    rcases Nat.lt_or_ge i k with h | h
    · exact hk.2 i y h hy
    · have : i = k := by omega
      subst this; rw [hx] at hy; cases hy
      exact ⟨Classical.not_not.1 g5, Classical.not_not.1 g6⟩
  have q5 : ∀ x ∈ S.shots, OkSh S.pts x := fun x hx => by
    obtain ⟨i, hi⟩ := List.getElem?_of_mem hx
    exact hk.2 i x (by have := (List.getElem?_eq_some_iff.1 hi).1; omega) hi
  clear hk h1'
  repeat' (first | refine rn ?_ | (apply TL_box; exact rfl; exact rfl; exact rfl; intro _ _) | (apply TL_alloc; exact rfl; intro _ _) | (apply TL_buildSlice; exact rfl; exact rfl; exact rfl; exact rfl; exact rfl; intro _ _))
  refine TC_loop (σ := Nat) (fun k => k ≤ S.marks.length ∧ ∀ (i : Nat) x, i < k → S.marks[i]? = some x → OkMk S.pts x) (fun k => [(1, .pointer (some ⟨b1, 0, none⟩)), (3, .func (.func 26) #[] #[.pointer (some ⟨b1, 0, none⟩)]), (56, .slice p.a2 S.marks.length p.c2), (57, .int .i64 S.marks.length), (58, .int .i64 k)]) (fun _ => [(b1, .cells (encSv S p) 32)]) (fun k => S.marks.length - k) 0 ⟨Nat.zero_le _, fun i x h => by omega⟩ sb (fun w h => h.sub (by repeat (first | exact List.Sublist.refl _ | apply List.Sublist.cons))) (fun k hk => ?_)
  repeat' (first | refine rn ?_ | (apply TL_box; exact rfl; exact rfl; exact rfl; intro _ _) | (apply TL_alloc; exact rfl; intro _ _) | (apply TL_buildSlice; exact rfl; exact rfl; exact rfl; exact rfl; exact rfl; intro _ _))
  refine TC_cond_dec rfl (fun h1' => ?_) (fun h1' => ?_)
  · have hlt : k < S.marks.length := by omega
    obtain ⟨x, hx⟩ : ∃ x, S.marks[k]? = some x := ⟨_, List.getElem?_eq_getElem hlt⟩
    repeat' (first | refine rn ?_ | (apply TL_box; exact rfl; exact rfl; exact rfl; intro _ _) | (apply TL_alloc; exact rfl; intro _ _) | (apply TL_buildSlice; exact rfl; exact rfl; exact rfl; exact rfl; exact rfl; intro _ _))
    refine TL_index k rfl rfl rfl (fun w h => h.sl ha.s2) rfl hlt (Nat.le_refl _) ?_
    refine TL_load_eln (u := x) rfl rfl (fun w h => h.sl ha.s2) hx rfl ?_
    repeat' (first | refine rn ?_ | (apply TL_box; exact rfl; exact rfl; exact rfl; intro _ _) | (apply TL_alloc; exact rfl; intro _ _) | (apply TL_buildSlice; exact rfl; exact rfl; exact rfl; exact rfl; exact rfl; intro _ _))
    refine TL_callV rfl rfl rfl (fun w h => c48 0 (S.pts - 1) [x.pt] _ 1 (by simp) w (Sl.of_blk h mm (fun y _ => rfl) ⟨[], rfl⟩)) ?_
    repeat' (first | refine rn ?_ | (apply TL_box; exact rfl; exact rfl; exact rfl; intro _ _) | (apply TL_alloc; exact rfl; intro _ _) | (apply TL_buildSlice; exact rfl; exact rfl; exact rfl; exact rfl; exact rfl; intro _ _))
    refine TL_gsplit_dec rfl rfl (fun g5 => ?_) (fun g5 => ?_)
    · repeat' (first | refine rn ?_ | (apply TL_box; exact rfl; exact rfl; exact rfl; intro _ _) | (apply TL_alloc; exact rfl; intro _ _) | (apply TL_buildSlice; exact rfl; exact rfl; exact rfl; exact rfl; exact rfl; intro _ _))
      have e : ¬ OkSv S := fun h => g5 (by simpa using (h.2.2.2.2.2.1 x (List.mem_of_getElem? hx)).1)
      rw [checkS_no e]
      exact TQ_ret1 Tryd.results15 (RV.tmp rfl) (fun w' hs => ⟨rfl, hs.below⟩)
    repeat' (first | refine rn ?_ | (apply TL_box; exact rfl; exact rfl; exact rfl; intro _ _) | (apply TL_alloc; exact rfl; intro _ _) | (apply TL_buildSlice; exact rfl; exact rfl; exact rfl; exact rfl; exact rfl; intro _ _))
    refine TL_callV rfl rfl rfl (fun w _ => c52 x.ht (-10000000) 10000000 w) ?_
    repeat' (first | refine rn ?_ | (apply TL_box; exact rfl; exact rfl; exact rfl; intro _ _) | (apply TL_alloc; exact rfl; intro _ _) | (apply TL_buildSlice; exact rfl; exact rfl; exact rfl; exact rfl; exact rfl; intro _ _))
    refine TC_cond_dec rfl (fun g6 => ?_) (fun g6 => ?_)
    · repeat' (first | refine rn ?_ | (apply TL_box; exact rfl; exact rfl; exact rfl; intro _ _) | (apply TL_alloc; exact rfl; intro _ _) | (apply TL_buildSlice; exact rfl; exact rfl; exact rfl; exact rfl; exact rfl; intro _ _))
      have e : ¬ OkSv S := fun h => g6 (h.2.2.2.2.2.1 x (List.mem_of_getElem? hx)).2
      rw [checkS_no e]
      exact TQ_ret1 Tryd.results15 (RV.tmp rfl) (fun w' hs => ⟨rfl, hs.below⟩)
    repeat' (first | refine rn ?_ | (apply TL_box; exact rfl; exact rfl; exact rfl; intro _ _) | (apply TL_alloc; exact rfl; intro _ _) | (apply TL_buildSlice; exact rfl; exact rfl; exact rfl; exact rfl; exact rfl; intro _ _))
    refine TQ_round (k + 1) ⟨hlt, fun i y hi hy => ?_⟩ (by omega) sb (fun w h => h.sub (by repeat (first | exact List.Sublist.refl _ | apply List.Sublist.cons)))
    rcases Nat.lt_or_ge i k with h | h
    · exact hk.2 i y h hy
    · have : i = k := by omega
      subst this; rw [hx] at hy; cases hy
      exact ⟨by simpa using Classical.not_not.1 g5, Classical.not_not.1 g6⟩
  have q6 : ∀ x ∈ S.marks, OkMk S.pts x := fun x hx => by
    obtain ⟨i, hi⟩ := List.getElem?_of_mem hx
    exact hk.2 i x (by have := (List.getElem?_eq_some_iff.1 hi).1; omega) hi
  clear hk h1'
  repeat' (first | refine rn ?_ | (apply TL_box; exact rfl; exact rfl; exact rfl; intro _ _) | (apply TL_alloc; exact rfl; intro _ _) | (apply TL_buildSlice; exact rfl; exact rfl; exact rfl; exact rfl; exact rfl; intro _ _))
  refine TC_loop (σ := Nat) (fun k => k ≤ S.thr.length ∧ ∀ (i : Nat) x, i < k → S.thr[i]? = some x → OkTh S.pts x) (fun k => [(1, .pointer (some ⟨b1, 0, none⟩)), (3, .func (.func 26) #[] #[.pointer (some ⟨b1, 0, none⟩)]), (78, .slice p.a3 S.thr.length p.c3), (79, .int .i64 S.thr.length), (80, .int .i64 k)]) (fun _ => [(b1, .cells (encSv S p) 32)]) (fun k => S.thr.length - k) 0 ⟨Nat.zero_le _, fun i x h => by omega⟩ sb (fun w h => h.sub (by repeat (first | exact List.Sublist.refl _ | apply List.Sublist.cons))) (fun k hk => ?_)
  repeat' (first | refine rn ?_ | (apply TL_box; exact rfl; exact rfl; exact rfl; intro _ _) | (apply TL_alloc; exact rfl; intro _ _) | (apply TL_buildSlice; exact rfl; exact rfl; exact rfl; exact rfl; exact rfl; intro _ _))
  refine TC_cond_dec rfl (fun h1' => ?_) (fun h1' => ?_)
  · have hlt : k < S.thr.length := by omega
    obtain ⟨x, hx⟩ : ∃ x, S.thr[k]? = some x := ⟨_, List.getElem?_eq_getElem hlt⟩
    repeat' (first | refine rn ?_ | (apply TL_box; exact rfl; exact rfl; exact rfl; intro _ _) | (apply TL_alloc; exact rfl; intro _ _) | (apply TL_buildSlice; exact rfl; exact rfl; exact rfl; exact rfl; exact rfl; intro _ _))
    refine TL_index k rfl rfl rfl (fun w h => h.sl ha.s3) rfl hlt (Nat.le_refl _) ?_
    refine TL_load_eln (u := x) rfl rfl (fun w h => h.sl ha.s3) hx rfl ?_
    repeat' (first | refine rn ?_ | (apply TL_box; exact rfl; exact rfl; exact rfl; intro _ _) | (apply TL_alloc; exact rfl; intro _ _) | (apply TL_buildSlice; exact rfl; exact rfl; exact rfl; exact rfl; exact rfl; intro _ _))
    refine TL_call rfl rfl rfl _ _ _ (fun w h => c51 S p hp x.fr x.to b1 _ mm w h) (fun _ _ => ?_)
    repeat' (first | refine rn ?_ | (apply TL_box; exact rfl; exact rfl; exact rfl; intro _ _) | (apply TL_alloc; exact rfl; intro _ _) | (apply TL_buildSlice; exact rfl; exact rfl; exact rfl; exact rfl; exact rfl; intro _ _))
    refine TL_gsplit_dec rfl rfl (fun g5 => ?_) (fun g5 => ?_)
    · repeat' (first | refine rn ?_ | (apply TL_box; exact rfl; exact rfl; exact rfl; intro _ _) | (apply TL_alloc; exact rfl; intro _ _) | (apply TL_buildSlice; exact rfl; exact rfl; exact rfl; exact rfl; exact rfl; intro _ _))
      have e : ¬ OkSv S := fun h => g5 (h.2.2.2.2.2.2 x (List.mem_of_getElem? hx)).1
      rw [checkS_no e]
      exact TQ_ret1 Tryd.results15 (RV.tmp rfl) (fun w' hs => ⟨rfl, hs.below⟩)
    repeat' (first | refine rn ?_ | (apply TL_box; exact rfl; exact rfl; exact rfl; intro _ _) | (apply TL_alloc; exact rfl; intro _ _) | (apply TL_buildSlice; exact rfl; exact rfl; exact rfl; exact rfl; exact rfl; intro _ _))
    refine TL_callV rfl rfl rfl (fun w _ => c52 x.long 1 100000000 w) ?_
    repeat' (first | refine rn ?_ | (apply TL_box; exact rfl; exact rfl; exact rfl; intro _ _) | (apply TL_alloc; exact rfl; intro _ _) | (apply TL_buildSlice; exact rfl; exact rfl; exact rfl; exact rfl; exact rfl; intro _ _))
    refine TC_cond_dec rfl (fun g6 => ?_) (fun g6 => ?_)
    · repeat' (first | refine rn ?_ | (apply TL_box; exact rfl; exact rfl; exact rfl; intro _ _) | (apply TL_alloc; exact rfl; intro _ _) | (apply TL_buildSlice; exact rfl; exact rfl; exact rfl; exact rfl; exact rfl; intro _ _))
      have e : ¬ OkSv S := fun h => g6 (h.2.2.2.2.2.2 x (List.mem_of_getElem? hx)).2
      rw [checkS_no e]
      exact TQ_ret1 Tryd.results15 (RV.tmp rfl) (fun w' hs => ⟨rfl, hs.below⟩)
    repeat' (first | refine rn ?_ | (apply TL_box; exact rfl; exact rfl; exact rfl; intro _ _) | (apply TL_alloc; exact rfl; intro _ _) | (apply TL_buildSlice; exact rfl; exact rfl; exact rfl; exact rfl; exact rfl; intro _ _))
    refine TQ_round (k + 1) ⟨hlt, fun i y hi hy => ?_⟩ (by omega) sb (fun w h => h.sub (by repeat (first | exact List.Sublist.refl _ | apply List.Sublist.cons)))
    rcases Nat.lt_or_ge i k with h | h
    · exact hk.2 i y h hy
    · have : i = k := by omega
      subst this; rw [hx] at hy; cases hy
      exact ⟨Classical.not_not.1 g5, Classical.not_not.1 g6⟩
  have q7 : ∀ x ∈ S.thr, OkTh S.pts x := fun x hx => by
    obtain ⟨i, hi⟩ := List.getElem?_of_mem hx
    exact hk.2 i x (by have := (List.getElem?_eq_some_iff.1 hi).1; omega) hi
  clear hk h1'
  repeat' (first | refine rn ?_ | (apply TL_box; exact rfl; exact rfl; exact rfl; intro _ _) | (apply TL_alloc; exact rfl; intro _ _) | (apply TL_buildSlice; exact rfl; exact rfl; exact rfl; exact rfl; exact rfl; intro _ _))
  have hok : OkSv S := ⟨hpts, by omega, by omega, by omega, q5, q6, q7⟩
  rw [checkS_ok hok]
  exact TQ_ret1 Tryd.results15 (RV.tmp rfl) (fun w' hs => ⟨rfl, hs.below⟩)
end Go.Proofs.YtoolblbdmmiahaaDoor
