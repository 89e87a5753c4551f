/- Walks of the package hour: All. Walks: slices.IndexFunc, ContainsFunc, hour.every, for turns and functions that turn what they captured. -/
import Derived.Test.YtkpkebpofpcmaaaGreatDoorH8
import Derived.Test.YtkpkebpofpcmaaaGreatDoorEngR
import Derived.Test.YtkpkebpofpcmaaaGreatDoorT1
namespace Go.Proofs.YtkpkebpofpcmaaaGreatDoor
open Go Go.Eng Go.RowKit Go.Proofs
set_option maxHeartbeats 2000000
set_option maxRecDepth 10000
attribute [local irreducible] TL TC TQ

def heardR (k : Ck) (day : Int) (l : List Tg) : List Sp × Int :=
  if openE k day ≠ 0 then ([], openE k day) else if 10 < l.length then ([], 4) else if toldOk (k, day) l = false then ([], 31) else if l.length = 0 then ([], 6) else (toldM (k, day) l, 0)
theorem c106 (k : Ck) (day : Int) (l : List Tg) (ao : Option Addr) (c : Nat) (hn : l.length ≤ 1000000) (w : World) (hl : Sl w 5 encTg ao l) (hk : CkAt w k) (hv : Nv w) : Calls Tryz.prog 106 #[.agg (encCk k).toArray, .int .i64 day, .slice ao l.length c] w
    (RetP w.heap.size w (fun q : Option Addr × Nat × Hp => .tuple #[.slice q.1 (heardR k day l).1.length q.2.1, .int .i64 (heardR k day l).2]) (fun q => q.2.2) (fun q => Row 106 2 encSp q.1 q.2.1 q.2.2 (heardR k day l).1)) := by
  refine enter (args := [.agg (encCk k).toArray, .int .i64 day, .slice ao l.length c]) Tryz.func106 rfl Tryz.ntmps106 rfl (SH.refl _) ?_
  repeat' (first | refine rn ?_ | (refine zb ?_; intro _ _) | (refine za ?_; intro _ _) | (refine zs ?_; intro _ _))
  rename_i b3 _
  by_cases ho : openE k day = 0
  rotate_left
  · have e : heardR k day l = ([], openE k day) := by unfold heardR; rw [if_pos ho]
    rw [e]
    refine TL_callV rfl rfl rfl (fun w h => c34_no k day w (hk.mono h.below) ho) ?_
    unfold zKp
    repeat' (first | refine rn ?_ | (refine zb ?_; intro _ _) | (refine za ?_; intro _ _) | (refine zs ?_; intro _ _))
    refine TC_cond_t rfl (decide_eq_true ho) ?_
    repeat' (first | refine rn ?_ | (refine zb ?_; intro _ _) | (refine za ?_; intro _ _) | (refine zs ?_; intro _ _))
    exact TQ_ret2 Tryz.results106 (RV.tmp rfl) (RV.tmp rfl) (fun w' hs => ⟨(none, 0, []), Row.nil _ _ _, rfl, hs.sub (List.nil_sublist _)⟩)
  refine TL_callV rfl rfl rfl (fun w h => c34_ok k day w (hk.mono h.below) ho) ?_
  repeat' (first | refine rn ?_ | (refine zb ?_; intro _ _) | (refine za ?_; intro _ _) | (refine zs ?_; intro _ _))
  rename_i b8 _
  refine TC_cond_dec rfl (fun g1 => ?_) (fun g1 => ?_)
  · have e : heardR k day l = ([], 4) := by unfold heardR; rw [if_neg (not_not_intro ho), if_pos (by omega)]
    rw [e]
    repeat' (first | refine rn ?_ | (refine zb ?_; intro _ _) | (refine za ?_; intro _ _) | (refine zs ?_; intro _ _))
    exact TQ_ret2 Tryz.results106 (RV.tmp rfl) (RV.tmp rfl) (fun w' hs => ⟨(none, 0, []), Row.nil _ _ _, rfl, hs.sub (List.nil_sublist _)⟩)
  repeat' (first | refine rn ?_ | (refine zb ?_; intro _ _) | (refine za ?_; intro _ _) | (refine zs ?_; intro _ _))
  refine TL_callN rfl rfl rfl (fun w h => c80 (k, day) l ao c hn w (h.sl hl) (hk.mono h.below) (hv.mono h.below)) ?_
  rintro ⟨so, sc, ob⟩ hrow
  dsimp only at hrow ⊢
  cases hok : toldOk (k, day) l with
  | false =>
    have e : heardR k day l = ([], 31) := by unfold heardR; rw [if_neg (not_not_intro ho), if_neg (by omega), if_pos hok]
    rw [e]
    repeat' (first | refine rn ?_ | (refine zb ?_; intro _ _) | (refine za ?_; intro _ _) | (refine zs ?_; intro _ _))
    exact TQ_ret2 Tryz.results106 (RV.tmp rfl) (RV.tmp rfl) (fun w' hs => ⟨(none, 0, []), Row.nil _ _ _, rfl, hs.sub (List.nil_sublist _)⟩)
  | true =>
    have e1 : toldL (k, day) l = toldM (k, day) l := by unfold toldL; rw [if_pos hok]
    have e2 : (toldM (k, day) l).length = l.length := by unfold toldM; rw [List.length_map]
    rw [e1] at hrow ⊢
    rw [e2]
    repeat' (first | refine rn ?_ | (refine zb ?_; intro _ _) | (refine za ?_; intro _ _) | (refine zs ?_; intro _ _))
    refine TC_cond_dec rfl (fun g2 => ?_) (fun g2 => ?_)
    · have e : heardR k day l = ([], 6) := by unfold heardR; rw [if_neg (not_not_intro ho), if_neg (by omega), if_neg (by rw [hok]; simp), if_pos (by omega)]
      rw [e]
      repeat' (first | refine rn ?_ | (refine zb ?_; intro _ _) | (refine za ?_; intro _ _) | (refine zs ?_; intro _ _))
      exact TQ_ret2 Tryz.results106 (RV.tmp rfl) (RV.tmp rfl) (fun w' hs => ⟨(none, 0, []), Row.nil _ _ _, rfl, hs.sub (List.nil_sublist _)⟩)
    · have e : heardR k day l = (toldM (k, day) l, 0) := by unfold heardR; rw [if_neg (not_not_intro ho), if_neg (by omega), if_neg (by rw [hok]; simp), if_neg (by omega)]
      rw [e]
      dsimp only
      rw [e2]
      repeat' (first | refine rn ?_ | (refine zb ?_; intro _ _) | (refine za ?_; intro _ _) | (refine zs ?_; intro _ _))
      exact TQ_ret2 Tryz.results106 (RV.tmp rfl) (RV.tmp rfl) (fun w' hs => ⟨(so, sc, ob), hrow, rfl, hs.sub (List.sublist_append_left _ _)⟩)
def momentR (k : Ck) (day : Int) (l : List Tg) : Sp × Int :=
  if (heardR k day l).2 ≠ 0 then ((1, 0), (heardR k day l).2) else if comW ((heardR k day l).1.getD 0 (0, 0)) (heardR k day l).1 = (1, 0) then ((1, 0), 32) else (comW ((heardR k day l).1.getD 0 (0, 0)) (heardR k day l).1, 0)
theorem heardR_ok {k : Ck} {day : Int} {l : List Tg} (h : (heardR k day l).2 = 0) : 0 < (heardR k day l).1.length ∧ (heardR k day l).1.length ≤ 10 := by
  unfold heardR at h ⊢
  split
  · rename_i h1; rw [if_pos h1] at h; exact absurd h h1
  · rename_i h1
    rw [if_neg h1] at h
    split
    · rename_i h2; rw [if_pos h2] at h; cases h
    · rename_i h2
      rw [if_neg h2] at h
      split
      · rename_i h3; rw [if_pos h3] at h; cases h
      · rename_i h3
        rw [if_neg h3] at h
        split
        · rename_i h4; rw [if_pos h4] at h; cases h
        · rename_i h4
          have : (toldM (k, day) l).length = l.length := by unfold toldM; rw [List.length_map]
          dsimp only
          omega
theorem c62 (k : Ck) (day : Int) (l : List Tg) (ao : Option Addr) (c : Nat) (hn : l.length ≤ 1000000) (w : World) (hl : Sl w 5 encTg ao l) (hk : CkAt w k) (hv : Nv w) : Calls Tryz.prog 62 #[.agg (encCk k).toArray, .int .i64 day, .slice ao l.length c] w
    (RetV w (.tuple #[.agg (encSp (momentR k day l).1).toArray, .int .i64 (momentR k day l).2])) := by
  refine enter (args := [.agg (encCk k).toArray, .int .i64 day, .slice ao l.length c]) Tryz.func62 rfl Tryz.ntmps62 rfl (SH.refl _) ?_
  repeat' (first | refine rn ?_ | (refine zb ?_; intro _ _) | (refine za ?_; intro _ _) | (refine zs ?_; intro _ _))
  rename_i b3 _ b6 _
  refine TL_callN rfl rfl rfl (fun w h => c106 k day l ao c hn w (h.sl hl) (hk.mono h.below) (hv.mono h.below)) ?_
  rintro ⟨so, sc, ob⟩ hrow
  dsimp only at hrow ⊢
  have hho := heardR_ok (k := k) (day := day) (l := l)
  unfold momentR
  generalize heardR k day l = hr at *
  obtain ⟨T, e⟩ := hr
  dsimp only at hrow hho ⊢
  repeat' (first | refine rn ?_ | (refine zb ?_; intro _ _) | (refine za ?_; intro _ _) | (refine zs ?_; intro _ _))
  refine TC_cond_dec rfl (fun g1 => ?_) (fun g1 => ?_)
  · rw [if_pos g1]
    repeat' (first | refine rn ?_ | (refine zb ?_; intro _ _) | (refine za ?_; intro _ _) | (refine zs ?_; intro _ _))
    refine TL_load_eln (i := 0) (o := 0) rfl rfl (fun w h => h.sl hv) rfl rfl ?_
    repeat' (first | refine rn ?_ | (refine zb ?_; intro _ _) | (refine za ?_; intro _ _) | (refine zs ?_; intro _ _))
    exact TQ_ret2 Tryz.results62 (RV.celln rfl mm (by rfl)) (RV.tmp rfl) (fun w' hs => ⟨rfl, hs.below⟩)
  rw [if_neg g1]
  have ho := hho (Classical.not_not.1 g1)
  obtain ⟨x, hx⟩ : ∃ x, T[0]? = some x := ⟨_, List.getElem?_eq_getElem ho.1⟩
  have ex : T.getD 0 (0, 0) = x := by rw [List.getD_eq_getElem?_getD, hx]; rfl
  rw [ex]
  repeat' (first | refine rn ?_ | (refine zb ?_; intro _ _) | (refine za ?_; intro _ _) | (refine zs ?_; intro _ _))
  refine TL_index 0 rfl rfl rfl (fun w h => hrow.sl h (fun x hx => List.mem_append_left _ hx)) rfl ho.1 (Nat.le_refl _) ?_
  refine TL_load_eln (u := x) rfl rfl (fun w h => hrow.sl h (fun x hx => List.mem_append_left _ hx)) hx rfl ?_
  repeat' (first | refine rn ?_ | (refine zb ?_; intro _ _) | (refine za ?_; intro _ _) | (refine zs ?_; intro _ _))
  refine TL_callV rfl rfl rfl (fun w h => c38 x T so sc (by unfold Small; omega) w (hrow.sl h (fun x hx => List.mem_append_left _ hx)) (hv.mono h.below)) ?_
  repeat' (first | refine rn ?_ | (refine zb ?_; intro _ _) | (refine za ?_; intro _ _) | (refine zs ?_; intro _ _))
  refine TL_load_eln (i := 0) (o := 0) rfl rfl (fun w h => h.sl hv) rfl rfl ?_
  repeat' (first | refine rn ?_ | (refine zb ?_; intro _ _) | (refine za ?_; intro _ _) | (refine zs ?_; intro _ _))
  refine TC_cond_dec rfl (fun g2 => ?_) (fun g2 => ?_)
  · have g2' : comW x T = (1, 0) := by
      have : [(comW x T).1, (comW x T).2] = [1, 0] := g2
      simp only [List.cons.injEq, and_true] at this
      exact Prod.ext this.1 this.2
    rw [if_pos g2']
    repeat' (first | refine rn ?_ | (refine zb ?_; intro _ _) | (refine za ?_; intro _ _) | (refine zs ?_; intro _ _))
    refine TL_load_eln (i := 0) (o := 0) rfl rfl (fun w h => h.sl hv) rfl rfl ?_
    repeat' (first | refine rn ?_ | (refine zb ?_; intro _ _) | (refine za ?_; intro _ _) | (refine zs ?_; intro _ _))
    exact TQ_ret2 Tryz.results62 (RV.celln rfl mm (by rfl)) (RV.tmp rfl) (fun w' hs => ⟨rfl, hs.below⟩)
  · have g2' : ¬ comW x T = (1, 0) := fun h => g2 (by rw [h])
    rw [if_neg g2']
    repeat' (first | refine rn ?_ | (refine zb ?_; intro _ _) | (refine za ?_; intro _ _) | (refine zs ?_; intro _ _))
    exact TQ_ret2 Tryz.results62 (RV.celln rfl mm (by rfl)) (RV.tmp rfl) (fun w' hs => ⟨rfl, hs.below⟩)
def allR (k : Ck) (day : Int) (l : List Tg) : Sp × Int := if (momentR k day l).2 ≠ 0 then ((0, 0), (momentR k day l).2) else (minW (momentR k day l).1, 0)
theorem c23 (k : Ck) (day : Int) (l : List Tg) (ao : Option Addr) (c : Nat) (hn : l.length ≤ 1000000) (w : World) (hl : Sl w 5 encTg ao l) (hk : CkAt w k) (hv : Nv w) : Calls Tryz.prog 23 #[.agg (encCk k).toArray, .int .i64 day, .slice ao l.length c] w
    (RetV w (.tuple #[.agg (encSp (allR k day l).1).toArray, .int .i64 (allR k day l).2])) := by
  refine enter (args := [.agg (encCk k).toArray, .int .i64 day, .slice ao l.length c]) Tryz.func23 rfl Tryz.ntmps23 rfl (SH.refl _) ?_
  repeat' (first | refine rn ?_ | (refine zb ?_; intro _ _) | (refine za ?_; intro _ _) | (refine zs ?_; intro _ _))
  refine TL_callV rfl rfl rfl (fun w h => c62 k day l ao c hn w (h.sl hl) (hk.mono h.below) (hv.mono h.below)) ?_
  unfold allR
  generalize momentR k day l = mr
  obtain ⟨m, e⟩ := mr
  dsimp only
  repeat' (first | refine rn ?_ | (refine zb ?_; intro _ _) | (refine za ?_; intro _ _) | (refine zs ?_; intro _ _))
  refine TC_cond_dec rfl (fun g1 => ?_) (fun g1 => ?_)
  · rw [if_pos g1]
    repeat' (first | refine rn ?_ | (refine zb ?_; intro _ _) | (refine za ?_; intro _ _) | (refine zs ?_; intro _ _))
    exact TQ_ret2 Tryz.results23 (RV.celln rfl mm (by rfl)) (RV.tmp rfl) (fun w' hs => ⟨rfl, hs.below⟩)
  · rw [if_neg g1]
    repeat' (first | refine rn ?_ | (refine zb ?_; intro _ _) | (refine za ?_; intro _ _) | (refine zs ?_; intro _ _))
    refine TL_callV rfl rfl rfl (fun w h => c39 m w) ?_
    repeat' (first | refine rn ?_ | (refine zb ?_; intro _ _) | (refine za ?_; intro _ _) | (refine zs ?_; intro _ _))
    exact TQ_ret2 Tryz.results23 (RV.celln rfl mm (by rfl)) (RV.tmp rfl) (fun w' hs => ⟨rfl, hs.below⟩)
end Go.Proofs.YtkpkebpofpcmaaaGreatDoor

namespace Go.Proofs.YtkpkebpofpcmaaaGreatDoor
open Go Go.Eng Go.RowKit Go.Proofs
set_option maxHeartbeats 1000000
set_option maxRecDepth 10000
attribute [local irreducible] TL TC TQ

/-- The first place, from 0 on, at which p says yes; n if there is none. -/
def First (p : Nat → Bool) (n j : Nat) : Prop := j ≤ n ∧ (∀ i, i < j → p i = false) ∧ (j < n → p j = true)

theorem d70 {B : Nat} {w0 : World} (Hj : Nat → Hp) (p : Nat → Bool) (kf : FuncId) (cl : List Value) [EntP Tryz.prog kf] (l : List Sp) (ao : Option Addr) (c : Nat) (hn : l.length ≤ 4611686018427387904)
    (hsl : ∀ j w, SH B w0 w (Hj j) → Sl w 2 encSp ao l)
    (hcl : ∀ (j : Nat) x, l[j]? = some x → ∀ w, SH B w0 w (Hj j) → Calls Tryz.prog kf (Value.agg (encSp x).toArray :: cl).toArray w (RetP B w0 (fun _ : Unit => .bool (p j)) (fun _ => Hj (j + 1)) (fun _ => True)))
    (w : World) (hs : SH B w0 w (Hj 0)) :
    Calls Tryz.prog 70 #[.slice ao l.length c, .func (.func kf) #[] cl.toArray] w
      (RetP B w0 (fun x : Nat × Int => .int .i64 x.2) (fun x => Hj (min (x.1 + 1) l.length)) (fun x => First p l.length x.1 ∧ x.2 = if x.1 < l.length then (x.1 : Int) else -1)) := by
  refine enter (args := [.slice ao l.length c, .func (.func kf) #[] cl.toArray]) Tryz.func70 rfl Tryz.ntmps70 rfl hs ?_
  repeat' (first | refine rn ?_ | (refine zb ?_; intro _ _) | (refine za ?_; intro _ _) | (refine zs ?_; intro _ _))
  refine TC_loop (σ := Nat) (fun k => k ≤ l.length ∧ ∀ i, i < k → p i = false) (fun k => [(0, .slice ao l.length c), (1, .func (.func kf) #[] cl.toArray), (7, .int .i64 l.length), (8, .int .i64 k)]) (fun k => Hj k) (fun k => l.length - k) 0 ⟨Nat.zero_le _, fun i h => by omega⟩ sb (fun w h => h) (fun k hk => ?_)
  repeat' (first | refine rn ?_ | (refine zb ?_; intro _ _) | (refine za ?_; intro _ _) | (refine zs ?_; intro _ _))
  refine TC_cond_dec rfl (fun h1 => ?_) (fun h1 => ?_)
  · have hlt : k < l.length := by omega
    obtain ⟨x, hx⟩ : ∃ x, l[k]? = some x := ⟨_, List.getElem?_eq_getElem hlt⟩
    repeat' (first | refine rn ?_ | (refine zb ?_; intro _ _) | (refine za ?_; intro _ _) | (refine zs ?_; intro _ _))
    refine TL_index k rfl rfl rfl (hsl k) rfl hlt (Nat.le_refl _) ?_
    refine TL_load_eln (u := x) rfl rfl (hsl k) hx rfl ?_
    refine TL_call rfl rfl rfl (fun _ : Unit => .bool (p k)) (fun _ => Hj (k + 1)) (fun _ => True) (fun w hs => hcl k x hx w hs) (fun _ _ => ?_)
    repeat' (first | refine rn ?_ | (refine zb ?_; intro _ _) | (refine za ?_; intro _ _) | (refine zs ?_; intro _ _))
    refine TC_cond rfl (fun h2 => ?_) (fun h2 => ?_)
    · repeat' (first | refine rn ?_ | (refine zb ?_; intro _ _) | (refine za ?_; intro _ _) | (refine zs ?_; intro _ _))
      refine TQ_ret1 Tryz.results70 (RV.tmp rfl) (fun w' hs => ⟨(k, (k : Int)), ⟨⟨by omega, hk.2, fun _ => h2⟩, by simp [hlt]⟩, rfl, ?_⟩)
      simpa [show min (k + 1) l.length = k + 1 by omega] using hs
    · repeat' (first | refine rn ?_ | (refine zb ?_; intro _ _) | (refine za ?_; intro _ _) | (refine zs ?_; intro _ _))
      refine TQ_round (k + 1) ⟨by omega, fun i hi => ?_⟩ (by omega) sb (fun w h => h)
      rcases Nat.lt_or_ge i k with h | h
      · exact hk.2 i h
      · have : i = k := by omega
        subst this; exact h2
  · have hkl : k = l.length := by omega
    subst hkl
    repeat' (first | refine rn ?_ | (refine zb ?_; intro _ _) | (refine za ?_; intro _ _) | (refine zs ?_; intro _ _))
    refine TQ_ret1 Tryz.results70 (RV.tmp rfl) (fun w' hs => ⟨(l.length, -1), ⟨⟨Nat.le_refl _, hk.2, fun h => by omega⟩, by simp⟩, rfl, ?_⟩)
    simpa [show min (l.length + 1) l.length = l.length by omega] using hs

theorem d109 {B : Nat} {w0 : World} (Hj : Nat → Hp) (p : Nat → Bool) (kf : FuncId) (cl : List Value) [EntP Tryz.prog kf] (l : List Sp) (ao : Option Addr) (c : Nat) (hn : l.length ≤ 4611686018427387904)
    (hsl : ∀ j w, SH B w0 w (Hj j) → Sl w 2 encSp ao l)
    (hcl : ∀ (j : Nat) x, l[j]? = some x → ∀ w, SH B w0 w (Hj j) → Calls Tryz.prog kf (Value.agg (encSp x).toArray :: cl).toArray w (RetP B w0 (fun _ : Unit => .bool (p j)) (fun _ => Hj (j + 1)) (fun _ => True)))
    (w : World) (hs : SH B w0 w (Hj 0)) :
    Calls Tryz.prog 109 #[.slice ao l.length c, .func (.func kf) #[] cl.toArray] w
      (RetP B w0 (fun x : Nat => .bool (decide (x < l.length))) (fun x => Hj (min (x + 1) l.length)) (fun x => First p l.length x)) := by
  refine enter (args := [.slice ao l.length c, .func (.func kf) #[] cl.toArray]) Tryz.func109 rfl Tryz.ntmps109 rfl hs ?_
  repeat' (first | refine rn ?_ | (refine zb ?_; intro _ _) | (refine za ?_; intro _ _) | (refine zs ?_; intro _ _))
  refine TL_call rfl rfl rfl _ _ _ (fun w hs => d70 Hj p kf cl l ao c hn hsl hcl w hs) ?_
  rintro ⟨j, m⟩ ⟨hf, hm⟩
  dsimp only at hf hm ⊢
  repeat' (first | refine rn ?_ | (refine zb ?_; intro _ _) | (refine za ?_; intro _ _) | (refine zs ?_; intro _ _))
  refine TQ_ret1 Tryz.results109 (RV.tmp rfl) (fun w' hs => ⟨j, hf, ?_, hs⟩)
  have hj := hf.1
  have : (0 ≤ m) ↔ j < l.length := by
    rw [hm]; split <;> omega
  simp [this]

/-- every: no place at which q says no. -/
theorem d68 {B : Nat} {w0 : World} (Hj : Nat → Hp) (q : Nat → Bool) (kf : FuncId) (cl : List Value) [EntP Tryz.prog kf] (l : List Sp) (ao : Option Addr) (c : Nat) (hn : l.length ≤ 4611686018427387904)
    (hsl : ∀ j w, SH B w0 w (Hj j) → Sl w 2 encSp ao l)
    (hcl : ∀ (G : Hp) (j : Nat) x, l[j]? = some x → ∀ w, SH B w0 w (Hj j ++ G) → Calls Tryz.prog kf (Value.agg (encSp x).toArray :: cl).toArray w (RetP B w0 (fun _ : Unit => .bool (q j)) (fun _ => Hj (j + 1) ++ G) (fun _ => True)))
    (w : World) (hs : SH B w0 w (Hj 0)) :
    Calls Tryz.prog 68 #[.slice ao l.length c, .func (.func kf) #[] cl.toArray] w
      (RetP B w0 (fun x : Nat => .bool (decide (¬ x < l.length))) (fun x => Hj (min (x + 1) l.length)) (fun x => First (fun j => !q j) l.length x)) := by
  refine enter (args := [.slice ao l.length c, .func (.func kf) #[] cl.toArray]) Tryz.func68 rfl Tryz.ntmps68 rfl hs ?_
  repeat' (first | refine rn ?_ | (refine zb ?_; intro _ _) | (refine za ?_; intro _ _) | (refine zs ?_; intro _ _))
  rename_i b3 _
  refine TL_call rfl rfl rfl _ _ _ (fun w hs => d109 (fun j => (b3, .cells [.func (.func kf) #[] cl.toArray] 149) :: Hj j) (fun j => !q j) 110 [.pointer (some ⟨b3, 0, none⟩)] l ao c hn (fun j w h => hsl j w (h.sub (List.sublist_cons_self _ _))) ?_ w hs) ?_
  · intro j x hx w hs
    refine enter (args := [Value.agg (encSp x).toArray, .pointer (some ⟨b3, 0, none⟩)]) Tryz.func110 rfl Tryz.ntmps110 rfl hs ?_
    repeat' (first | refine rn ?_ | (refine zb ?_; intro _ _) | (refine za ?_; intro _ _) | (refine zs ?_; intro _ _))
    rename_i bx _
    refine TL_call rfl rfl rfl (fun _ : Unit => .bool (q j)) (fun _ => Hj (j + 1) ++ [(bx, Blk.cells (encSp x) 38), (b3, Blk.cells [.func (.func kf) #[] cl.toArray] 149)]) (fun _ => True) (fun w hs => hcl [(bx, Blk.cells (encSp x) 38), (b3, Blk.cells [.func (.func kf) #[] cl.toArray] 149)] j x hx w (hs.perm List.perm_append_comm)) (fun _ _ => ?_)
    repeat' (first | refine rn ?_ | (refine zb ?_; intro _ _) | (refine za ?_; intro _ _) | (refine zs ?_; intro _ _))
    exact TQ_ret1 Tryz.results110 (RV.tmp rfl) (fun w' hs => ⟨(), trivial, rfl, (hs.perm (List.perm_append_comm (l₁ := [(bx, Blk.cells (encSp x) 38), (b3, Blk.cells [.func (.func kf) #[] cl.toArray] 149)]))).sub (List.sublist_cons_self _ _)⟩)
  rintro j hf
  repeat' (first | refine rn ?_ | (refine zb ?_; intro _ _) | (refine za ?_; intro _ _) | (refine zs ?_; intro _ _))
  exact TQ_ret1 Tryz.results68 (RV.tmp rfl) (fun w' hs => ⟨j, hf, rfl, hs.sub (List.sublist_cons_self _ _)⟩)
end Go.Proofs.YtkpkebpofpcmaaaGreatDoor
