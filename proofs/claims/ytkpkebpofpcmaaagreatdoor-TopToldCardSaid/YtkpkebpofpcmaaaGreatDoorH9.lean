/- Walks of the package hour: All. -/
import Derived.Test.YtkpkebpofpcmaaaGreatDoorH8
namespace Go.Proofs.YtkpkebpofpcmaaaGreatDoor
open Go Go.Eng Go.RowKit Go.Proofs
set_option maxHeartbeats 2000000
set_option maxRecDepth 10000
attribute [local irreducible] TL TC TQ

def heardR (k : Ck) (day : Int) (l : List Tg) : List Sp × Int :=
  if openE k day ≠ 0 then ([], openE k day) else if 10 < l.length then ([], 4) else if toldOk (k, day) l = false then ([], 31) else if l.length = 0 then ([], 6) else (toldM (k, day) l, 0)
theorem c106 (k : Ck) (day : Int) (l : List Tg) (ao : Option Addr) (c : Nat) (hn : l.length ≤ 1000000) (w : World) (hl : Sl w 5 encTg ao l) (hk : CkAt w k) (hv : Nv w) : Calls Tryz.prog 106 #[.agg (encCk k).toArray, .int .i64 day, .slice ao l.length c] w
    (RetP w.heap.size w (fun q : Option Addr × Nat × Hp => .tuple #[.slice q.1 (heardR k day l).1.length q.2.1, .int .i64 (heardR k day l).2]) (fun q => q.2.2) (fun q => Row 106 2 encSp q.1 q.2.1 q.2.2 (heardR k day l).1)) := by
  refine enter (args := [.agg (encCk k).toArray, .int .i64 day, .slice ao l.length c]) Tryz.func106 rfl Tryz.ntmps106 rfl (SH.refl _) ?_
  repeat' (first | refine rn ?_ | (refine zb ?_; intro _ _) | (refine za ?_; intro _ _) | (refine zs ?_; intro _ _))
  rename_i b3 _
  by_cases ho : openE k day = 0
  rotate_left
  · have e : heardR k day l = ([], openE k day) := by unfold heardR; rw [if_pos ho]
    rw [e]
    refine TL_callV rfl rfl rfl (fun w h => c34_no k day w (hk.mono h.below) ho) ?_
    unfold zKp
    repeat' (first | refine rn ?_ | (refine zb ?_; intro _ _) | (refine za ?_; intro _ _) | (refine zs ?_; intro _ _))
    refine TC_cond_t rfl (decide_eq_true ho) ?_
    repeat' (first | refine rn ?_ | (refine zb ?_; intro _ _) | (refine za ?_; intro _ _) | (refine zs ?_; intro _ _))
    exact TQ_ret2 Tryz.results106 (RV.tmp rfl) (RV.tmp rfl) (fun w' hs => ⟨(none, 0, []), Row.nil _ _ _, rfl, hs.sub (List.nil_sublist _)⟩)
  refine TL_callV rfl rfl rfl (fun w h => c34_ok k day w (hk.mono h.below) ho) ?_
  repeat' (first | refine rn ?_ | (refine zb ?_; intro _ _) | (refine za ?_; intro _ _) | (refine zs ?_; intro _ _))
  rename_i b8 _
  refine TC_cond_dec rfl (fun g1 => ?_) (fun g1 => ?_)
  · have e : heardR k day l = ([], 4) := by unfold heardR; rw [if_neg (not_not_intro ho), if_pos (by omega)]
    rw [e]
    repeat' (first | refine rn ?_ | (refine zb ?_; intro _ _) | (refine za ?_; intro _ _) | (refine zs ?_; intro _ _))
    exact TQ_ret2 Tryz.results106 (RV.tmp rfl) (RV.tmp rfl) (fun w' hs => ⟨(none, 0, []), Row.nil _ _ _, rfl, hs.sub (List.nil_sublist _)⟩)
  repeat' (first | refine rn ?_ | (refine zb ?_; intro _ _) | (refine za ?_; intro _ _) | (refine zs ?_; intro _ _))
  refine TL_callN rfl rfl rfl (fun w h => c80 (k, day) l ao c hn w (h.sl hl) (hk.mono h.below) (hv.mono h.below)) ?_
  rintro ⟨so, sc, ob⟩ hrow
  dsimp only at hrow ⊢
  cases hok : toldOk (k, day) l with
  | false =>
    have e : heardR k day l = ([], 31) := by unfold heardR; rw [if_neg (not_not_intro ho), if_neg (by omega), if_pos hok]
    rw [e]
    repeat' (first | refine rn ?_ | (refine zb ?_; intro _ _) | (refine za ?_; intro _ _) | (refine zs ?_; intro _ _))
    exact TQ_ret2 Tryz.results106 (RV.tmp rfl) (RV.tmp rfl) (fun w' hs => ⟨(none, 0, []), Row.nil _ _ _, rfl, hs.sub (List.nil_sublist _)⟩)
  | true =>
    have e1 : toldL (k, day) l = toldM (k, day) l := by unfold toldL; rw [if_pos hok]
    have e2 : (toldM (k, day) l).length = l.length := by unfold toldM; rw [List.length_map]
    rw [e1] at hrow ⊢
    rw [e2]
    repeat' (first | refine rn ?_ | (refine zb ?_; intro _ _) | (refine za ?_; intro _ _) | (refine zs ?_; intro _ _))
    refine TC_cond_dec rfl (fun g2 => ?_) (fun g2 => ?_)
    · have e : heardR k day l = ([], 6) := by unfold heardR; rw [if_neg (not_not_intro ho), if_neg (by omega), if_neg (by rw [hok]; simp), if_pos (by omega)]
      rw [e]
      repeat' (first | refine rn ?_ | (refine zb ?_; intro _ _) | (refine za ?_; intro _ _) | (refine zs ?_; intro _ _))
      exact TQ_ret2 Tryz.results106 (RV.tmp rfl) (RV.tmp rfl) (fun w' hs => ⟨(none, 0, []), Row.nil _ _ _, rfl, hs.sub (List.nil_sublist _)⟩)
    · have e : heardR k day l = (toldM (k, day) l, 0) := by unfold heardR; rw [if_neg (not_not_intro ho), if_neg (by omega), if_neg (by rw [hok]; simp), if_neg (by omega)]
      rw [e]
      dsimp only
      rw [e2]
      repeat' (first | refine rn ?_ | (refine zb ?_; intro _ _) | (refine za ?_; intro _ _) | (refine zs ?_; intro _ _))
      exact TQ_ret2 Tryz.results106 (RV.tmp rfl) (RV.tmp rfl) (fun w' hs => ⟨(so, sc, ob), hrow, rfl, hs.sub (List.sublist_append_left _ _)⟩)
def momentR (k : Ck) (day : Int) (l : List Tg) : Sp × Int :=
  if (heardR k day l).2 ≠ 0 then ((1, 0), (heardR k day l).2) else if comW ((heardR k day l).1.getD 0 (0, 0)) (heardR k day l).1 = (1, 0) then ((1, 0), 32) else (comW ((heardR k day l).1.getD 0 (0, 0)) (heardR k day l).1, 0)
theorem heardR_ok {k : Ck} {day : Int} {l : List Tg} (h : (heardR k day l).2 = 0) : 0 < (heardR k day l).1.length ∧ (heardR k day l).1.length ≤ 10 := by
  unfold heardR at h ⊢
  split
  · rename_i h1; rw [if_pos h1] at h; exact absurd h h1
  · rename_i h1
    rw [if_neg h1] at h
    split
    · rename_i h2; rw [if_pos h2] at h; cases h
    · rename_i h2
      rw [if_neg h2] at h
      split
      · rename_i h3; rw [if_pos h3] at h; cases h
      · rename_i h3
        rw [if_neg h3] at h
        split
        · rename_i h4; rw [if_pos h4] at h; cases h
        · rename_i h4
          have : (toldM (k, day) l).length = l.length := by unfold toldM; rw [List.length_map]
          dsimp only
          omega
theorem c62 (k : Ck) (day : Int) (l : List Tg) (ao : Option Addr) (c : Nat) (hn : l.length ≤ 1000000) (w : World) (hl : Sl w 5 encTg ao l) (hk : CkAt w k) (hv : Nv w) : Calls Tryz.prog 62 #[.agg (encCk k).toArray, .int .i64 day, .slice ao l.length c] w
    (RetV w (.tuple #[.agg (encSp (momentR k day l).1).toArray, .int .i64 (momentR k day l).2])) := by
  refine enter (args := [.agg (encCk k).toArray, .int .i64 day, .slice ao l.length c]) Tryz.func62 rfl Tryz.ntmps62 rfl (SH.refl _) ?_
  repeat' (first | refine rn ?_ | (refine zb ?_; intro _ _) | (refine za ?_; intro _ _) | (refine zs ?_; intro _ _))
  rename_i b3 _ b6 _
  refine TL_callN rfl rfl rfl (fun w h => c106 k day l ao c hn w (h.sl hl) (hk.mono h.below) (hv.mono h.below)) ?_
  rintro ⟨so, sc, ob⟩ hrow
  dsimp only at hrow ⊢
  have hho := heardR_ok (k := k) (day := day) (l := l)
  unfold momentR
  generalize heardR k day l = hr at *
  obtain ⟨T, e⟩ := hr
  dsimp only at hrow hho ⊢
  repeat' (first | refine rn ?_ | (refine zb ?_; intro _ _) | (refine za ?_; intro _ _) | (refine zs ?_; intro _ _))
  refine TC_cond_dec rfl (fun g1 => ?_) (fun g1 => ?_)
  · rw [if_pos g1]
    repeat' (first | refine rn ?_ | (refine zb ?_; intro _ _) | (refine za ?_; intro _ _) | (refine zs ?_; intro _ _))
    refine TL_load_eln (i := 0) (o := 0) rfl rfl (fun w h => h.sl hv) rfl rfl ?_
    repeat' (first | refine rn ?_ | (refine zb ?_; intro _ _) | (refine za ?_; intro _ _) | (refine zs ?_; intro _ _))
    exact TQ_ret2 Tryz.results62 (RV.celln rfl mm (by rfl)) (RV.tmp rfl) (fun w' hs => ⟨rfl, hs.below⟩)
  rw [if_neg g1]
  have ho := hho (Classical.not_not.1 g1)
  obtain ⟨x, hx⟩ : ∃ x, T[0]? = some x := ⟨_, List.getElem?_eq_getElem ho.1⟩
  have ex : T.getD 0 (0, 0) = x := by rw [List.getD_eq_getElem?_getD, hx]; rfl
  rw [ex]
  repeat' (first | refine rn ?_ | (refine zb ?_; intro _ _) | (refine za ?_; intro _ _) | (refine zs ?_; intro _ _))
  refine TL_index 0 rfl rfl rfl (fun w h => hrow.sl h (fun x hx => List.mem_append_left _ hx)) rfl ho.1 (Nat.le_refl _) ?_
  refine TL_load_eln (u := x) rfl rfl (fun w h => hrow.sl h (fun x hx => List.mem_append_left _ hx)) hx rfl ?_
  repeat' (first | refine rn ?_ | (refine zb ?_; intro _ _) | (refine za ?_; intro _ _) | (refine zs ?_; intro _ _))
  refine TL_callV rfl rfl rfl (fun w h => c38 x T so sc (by unfold Small; omega) w (hrow.sl h (fun x hx => List.mem_append_left _ hx)) (hv.mono h.below)) ?_
  repeat' (first | refine rn ?_ | (refine zb ?_; intro _ _) | (refine za ?_; intro _ _) | (refine zs ?_; intro _ _))
  refine TL_load_eln (i := 0) (o := 0) rfl rfl (fun w h => h.sl hv) rfl rfl ?_
  repeat' (first | refine rn ?_ | (refine zb ?_; intro _ _) | (refine za ?_; intro _ _) | (refine zs ?_; intro _ _))
  refine TC_cond_dec rfl (fun g2 => ?_) (fun g2 => ?_)
  · have g2' : comW x T = (1, 0) := by
      have : [(comW x T).1, (comW x T).2] = [1, 0] := g2
      simp only [List.cons.injEq, and_true] at this
      exact Prod.ext this.1 this.2
    rw [if_pos g2']
    repeat' (first | refine rn ?_ | (refine zb ?_; intro _ _) | (refine za ?_; intro _ _) | (refine zs ?_; intro _ _))
    refine TL_load_eln (i := 0) (o := 0) rfl rfl (fun w h => h.sl hv) rfl rfl ?_
    repeat' (first | refine rn ?_ | (refine zb ?_; intro _ _) | (refine za ?_; intro _ _) | (refine zs ?_; intro _ _))
    exact TQ_ret2 Tryz.results62 (RV.celln rfl mm (by rfl)) (RV.tmp rfl) (fun w' hs => ⟨rfl, hs.below⟩)
  · have g2' : ¬ comW x T = (1, 0) := fun h => g2 (by rw [h])
    rw [if_neg g2']
    repeat' (first | refine rn ?_ | (refine zb ?_; intro _ _) | (refine za ?_; intro _ _) | (refine zs ?_; intro _ _))
    exact TQ_ret2 Tryz.results62 (RV.celln rfl mm (by rfl)) (RV.tmp rfl) (fun w' hs => ⟨rfl, hs.below⟩)
def allR (k : Ck) (day : Int) (l : List Tg) : Sp × Int := if (momentR k day l).2 ≠ 0 then ((0, 0), (momentR k day l).2) else (minW (momentR k day l).1, 0)
theorem c23 (k : Ck) (day : Int) (l : List Tg) (ao : Option Addr) (c : Nat) (hn : l.length ≤ 1000000) (w : World) (hl : Sl w 5 encTg ao l) (hk : CkAt w k) (hv : Nv w) : Calls Tryz.prog 23 #[.agg (encCk k).toArray, .int .i64 day, .slice ao l.length c] w
    (RetV w (.tuple #[.agg (encSp (allR k day l).1).toArray, .int .i64 (allR k day l).2])) := by
  refine enter (args := [.agg (encCk k).toArray, .int .i64 day, .slice ao l.length c]) Tryz.func23 rfl Tryz.ntmps23 rfl (SH.refl _) ?_
  repeat' (first | refine rn ?_ | (refine zb ?_; intro _ _) | (refine za ?_; intro _ _) | (refine zs ?_; intro _ _))
  refine TL_callV rfl rfl rfl (fun w h => c62 k day l ao c hn w (h.sl hl) (hk.mono h.below) (hv.mono h.below)) ?_
  unfold allR
  generalize momentR k day l = mr
  obtain ⟨m, e⟩ := mr
  dsimp only
  repeat' (first | refine rn ?_ | (refine zb ?_; intro _ _) | (refine za ?_; intro _ _) | (refine zs ?_; intro _ _))
  refine TC_cond_dec rfl (fun g1 => ?_) (fun g1 => ?_)
  · rw [if_pos g1]
    repeat' (first | refine rn ?_ | (refine zb ?_; intro _ _) | (refine za ?_; intro _ _) | (refine zs ?_; intro _ _))
    exact TQ_ret2 Tryz.results23 (RV.celln rfl mm (by rfl)) (RV.tmp rfl) (fun w' hs => ⟨rfl, hs.below⟩)
  · rw [if_neg g1]
    repeat' (first | refine rn ?_ | (refine zb ?_; intro _ _) | (refine za ?_; intro _ _) | (refine zs ?_; intro _ _))
    refine TL_callV rfl rfl rfl (fun w h => c39 m w) ?_
    repeat' (first | refine rn ?_ | (refine zb ?_; intro _ _) | (refine za ?_; intro _ _) | (refine zs ?_; intro _ _))
    exact TQ_ret2 Tryz.results23 (RV.celln rfl mm (by rfl)) (RV.tmp rfl) (fun w' hs => ⟨rfl, hs.below⟩)
end Go.Proofs.YtkpkebpofpcmaaaGreatDoor
