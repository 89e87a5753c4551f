/- Walks of the package channel: canals at work. Walks of the package channel: uses, and which canals are dry. -/
import Derived.Test.YtkpkebpofpcmaaaGreatDoorC2
namespace Go.Proofs.YtkpkebpofpcmaaaGreatDoor
open Go Go.Eng Go.RowKit Go.Proofs
set_option maxHeartbeats 4000000
set_option maxRecDepth 10000
attribute [local irreducible] TL TC TQ

def downM (v f t : Int) : Int := max 0 (v - f) * t / 1000
def riseM (v f t : Int) : Int := (max 0 (v - f) * t + 1000 - 1) / 1000
def VB (v : Int) : Prop := 0 ≤ v ∧ v ≤ 300000000000
theorem prodB {v f t : Int} (hv : VB v) (hf : 0 ≤ f) (ht : 0 ≤ t ∧ t ≤ 1000) : 0 ≤ max 0 (v - f) * t ∧ max 0 (v - f) * t ≤ max 0 (v - f) * 1000 ∧ max 0 (v - f) ≤ v := by
  have hm : 0 ≤ max 0 (v - f) := by omega
  have := hv.1
  exact ⟨Int.mul_nonneg hm ht.1, Int.mul_le_mul_of_nonneg_left ht.2 hm, by omega⟩
theorem downB {v f t : Int} (hv : VB v) (hf : 0 ≤ f) (ht : 0 ≤ t ∧ t ≤ 1000) : 0 ≤ downM v f t ∧ downM v f t ≤ v := by
  have := prodB hv hf ht
  unfold downM; omega
theorem riseB {v f t : Int} (hv : VB v) (hf : 0 ≤ f) (ht : 0 ≤ t ∧ t ≤ 1000) : 0 ≤ riseM v f t ∧ riseM v f t ≤ v := by
  have := prodB hv hf ht
  unfold riseM; omega
theorem c98 (v f t : Int) (hv : VB v) (hf : 0 ≤ f ∧ f ≤ 10000000) (ht : 0 ≤ t ∧ t ≤ 1000) (w : World) : Calls Tryz.prog 98 #[.int .i64 v, .int .i64 f, .int .i64 t] w (RetV w (.int .i64 (downM v f t))) := by
  have hb := prodB hv hf.1 ht
  have := hv.1; have := hv.2
  refine enter (args := [.int .i64 v, .int .i64 f, .int .i64 t]) Tryz.func98 rfl Tryz.ntmps98 rfl (SH.refl _) ?_
  repeat' (first | refine rn ?_ | (refine zb ?_; intro _ _) | (refine za ?_; intro _ _) | (refine zs ?_; intro _ _))
  exact TQ_ret1 Tryz.results98 (RV.tmp rfl) (fun w' hs => ⟨rfl, hs.below⟩)
theorem c99 (v f t : Int) (hv : VB v) (hf : 0 ≤ f ∧ f ≤ 10000000) (ht : 0 ≤ t ∧ t ≤ 1000) (w : World) : Calls Tryz.prog 99 #[.int .i64 v, .int .i64 f, .int .i64 t] w (RetV w (.int .i64 (riseM v f t))) := by
  have hb := prodB hv hf.1 ht
  have := hv.1; have := hv.2
  refine enter (args := [.int .i64 v, .int .i64 f, .int .i64 t]) Tryz.func99 rfl Tryz.ntmps99 rfl (SH.refl _) ?_
  repeat' (first | refine rn ?_ | (refine zb ?_; intro _ _) | (refine za ?_; intro _ _) | (refine zs ?_; intro _ _))
  exact TQ_ret1 Tryz.results99 (RV.tmp rfl) (fun w' hs => ⟨rfl, hs.below⟩)
structure CnOk (c : Cn) : Prop where
  seep : Ord c.seep 0 1000
  fill : Ord c.fill 0 10000000
def workM (c : Cn) (dry : Bool) : St := (if dry then c.fill else (0, 0), (1000 - c.seep.2, 1000 - c.seep.1))
theorem c56 (c : Cn) (hc : CnOk c) (dry : Bool) (w : World) : Calls Tryz.prog 56 #[.agg (encCn c).toArray, .bool dry] w (RetV w (.agg (encSt (workM c dry)).toArray)) := by
  obtain ⟨s1, s2, s3⟩ := hc.seep
  refine enter (args := [.agg (encCn c).toArray, .bool dry]) Tryz.func56 rfl Tryz.ntmps56 rfl (SH.refl _) ?_
  repeat' (first | refine rn ?_ | (refine zb ?_; intro _ _) | (refine za ?_; intro _ _) | (refine zs ?_; intro _ _))
  cases dry with
  | true =>
    repeat' (first | refine rn ?_ | (refine zb ?_; intro _ _) | (refine za ?_; intro _ _) | (refine zs ?_; intro _ _))
    exact TQ_ret1 Tryz.results56 (RV.celln rfl mm (by rfl)) (fun w' hs => ⟨rfl, hs.below⟩)
  | false =>
    repeat' (first | refine rn ?_ | (refine zb ?_; intro _ _) | (refine za ?_; intro _ _) | (refine zs ?_; intro _ _))
    exact TQ_ret1 Tryz.results56 (RV.celln rfl mm (by rfl)) (fun w' hs => ⟨rfl, hs.below⟩)
structure WkOk (x : St) : Prop where
  f : Ord x.1 0 10000000
  t : Ord x.2 0 1000
theorem workM_ok {c : Cn} (hc : CnOk c) (dry : Bool) : WkOk (workM c dry) := by
  obtain ⟨s1, s2, s3⟩ := hc.seep
  refine ⟨?_, by unfold workM Ord; dsimp only; omega⟩
  unfold workM
  cases dry with
  | true => exact hc.fill
  | false => exact ⟨Int.le_refl _, Int.le_refl _, show (0 : Int) ≤ 10000000 by decide⟩
def VS (v : Sp) : Prop := VB v.1 ∧ VB v.2
def goesM (x : St) (v : Sp) : Sp := (downM v.1 x.1.2 x.2.1, riseM v.2 x.1.1 x.2.2)
def seepsM (x : St) (v : Sp) : Sp := (v.1 - riseM v.1 x.1.1 x.2.2, v.2 - downM v.2 x.1.2 x.2.1)
theorem goesM_ok {x : St} {v : Sp} (hx : WkOk x) (hv : VS v) : VS (goesM x v) := by
  obtain ⟨f1, f2, f3⟩ := hx.f
  obtain ⟨t1, t2, t3⟩ := hx.t
  have h1 := downB (t := x.2.1) hv.1 (show 0 ≤ x.1.2 by omega) (by omega)
  have h2 := riseB (t := x.2.2) hv.2 (show 0 ≤ x.1.1 by omega) (by omega)
  have a1 := hv.1.2; have a2 := hv.2.2
  exact ⟨⟨h1.1, by dsimp only [goesM]; omega⟩, ⟨h2.1, by dsimp only [goesM]; omega⟩⟩
theorem c57 (x : St) (v : Sp) (hx : WkOk x) (hv : VS v) (w : World) : Calls Tryz.prog 57 #[.agg (encSt x).toArray, .agg (encSp v).toArray] w (RetV w (.agg (encSp (goesM x v)).toArray)) := by
  obtain ⟨f1, f2, f3⟩ := hx.f
  obtain ⟨t1, t2, t3⟩ := hx.t
  refine enter (args := [.agg (encSt x).toArray, .agg (encSp v).toArray]) Tryz.func57 rfl Tryz.ntmps57 rfl (SH.refl _) ?_
  repeat' (first | refine rn ?_ | (refine zb ?_; intro _ _) | (refine za ?_; intro _ _) | (refine zs ?_; intro _ _))
  apply TC_draw 19; kernel_rfl; exact Tryz.mixed
  · iterate 8 (refine' pv ?_; rotate_left)
    (refine' PG.val rfl rfl (by intro _X; refine TL_callV rfl rfl rfl (fun w h => c98 v.1 x.1.2 x.2.1 hv.1 (by omega) (by omega) w) ?_; exact qe) ?_; rotate_left)
    iterate 8 (refine' pv ?_; rotate_left)
    (refine' PG.val rfl rfl (by intro _X; refine TL_callV rfl rfl rfl (fun w h => c99 v.2 x.1.1 x.2.2 hv.2 (by omega) (by omega) w) ?_; exact qe) ?_; rotate_left)
    (refine' pv ?_; rotate_left)
    exact PG.nil
  change TL _ _ _ _ _ _ _ _ _ _ _
  repeat' (first | refine rn ?_ | (refine zb ?_; intro _ _) | (refine za ?_; intro _ _) | (refine zs ?_; intro _ _))
  exact TQ_ret1 Tryz.results57 (RV.celln rfl mm (by rfl)) (fun w' hs => ⟨rfl, hs.below⟩)
theorem c103 (x : St) (v : Sp) (hx : WkOk x) (hv : VS v) (w : World) : Calls Tryz.prog 103 #[.agg (encSt x).toArray, .agg (encSp v).toArray] w (RetV w (.agg (encSp (seepsM x v)).toArray)) := by
  obtain ⟨f1, f2, f3⟩ := hx.f
  obtain ⟨t1, t2, t3⟩ := hx.t
  have h1 := downB (t := x.2.1) hv.2 (show 0 ≤ x.1.2 by omega) (by omega)
  have h2 := riseB (t := x.2.2) hv.1 (show 0 ≤ x.1.1 by omega) (by omega)
  have a1 := hv.1.1; have a2 := hv.1.2; have a3 := hv.2.1; have a4 := hv.2.2
  refine enter (args := [.agg (encSt x).toArray, .agg (encSp v).toArray]) Tryz.func103 rfl Tryz.ntmps103 rfl (SH.refl _) ?_
  repeat' (first | refine rn ?_ | (refine zb ?_; intro _ _) | (refine za ?_; intro _ _) | (refine zs ?_; intro _ _))
  apply TC_draw 25; kernel_rfl; exact Tryz.mixed
  · iterate 10 (refine' pv ?_; rotate_left)
    (refine' PG.val rfl rfl (by intro _X; refine TL_callV rfl rfl rfl (fun w h => c99 v.1 x.1.1 x.2.2 hv.1 (by omega) (by omega) w) ?_; exact qe) ?_; rotate_left)
    iterate 11 (refine' pv ?_; rotate_left)
    (refine' PG.val rfl rfl (by intro _X; refine TL_callV rfl rfl rfl (fun w h => c98 v.2 x.1.2 x.2.1 hv.2 (by omega) (by omega) w) ?_; exact qe) ?_; rotate_left)
    iterate 2 (refine' pv ?_; rotate_left)
    exact PG.nil
  change TL _ _ _ _ _ _ _ _ _ _ _
  repeat' (first | refine rn ?_ | (refine zb ?_; intro _ _) | (refine za ?_; intro _ _) | (refine zs ?_; intro _ _))
  exact TQ_ret1 Tryz.results103 (RV.celln rfl mm (by rfl)) (fun w' hs => ⟨rfl, hs.below⟩)
/-- Sums, as the machine adds. -/
def plusM (a b : Sp) : Sp := (wr (a.1 + b.1), wr (a.2 + b.2))
theorem c102 (a s : Sp) (b : Nat) (w : World) (hs0 : Sl w 2 encSp (some ⟨b, 0, none⟩) [s]) : Calls Tryz.prog 102 #[.agg (encSp a).toArray, .slice (some ⟨b, 0, none⟩) 1 1] w (RetV w (.agg (encSp (plusM a s)).toArray)) := by
  refine enter (args := [.agg (encSp a).toArray, .slice (some ⟨b, 0, none⟩) 1 1]) Tryz.func102 rfl Tryz.ntmps102 rfl (SH.refl _) ?_
  repeat' (first | refine rn ?_ | (refine zb ?_; intro _ _) | (refine za ?_; intro _ _) | (refine zs ?_; intro _ _))
  rename_i b2 _ b4 _
  refine TC_loop (σ := Nat) (fun k => k ≤ 1) (fun k => [(2, .pointer (some ⟨b2, 0, none⟩)), (4, .pointer (some ⟨b4, 0, none⟩)), (7, .slice (some ⟨b, 0, none⟩) 1 1), (8, .int .i64 1), (9, .int .i64 k)]) (fun k => [(b4, .cells [.int .i64 0, .int .i64 0] 25), (b2, .cells (encSp (if k = 0 then a else plusM a s)) 25)]) (fun k => 1 - k) 0 (by omega) sb (fun w h => h) (fun k hk => ?_)
  repeat' (first | refine rn ?_ | (refine zb ?_; intro _ _) | (refine za ?_; intro _ _) | (refine zs ?_; intro _ _))
  refine TC_cond_dec rfl (fun g1 => ?_) (fun g1 => ?_)
  · have hk0 : k = 0 := by omega
    subst hk0
    rw [if_pos rfl]
    repeat' (first | refine rn ?_ | (refine zb ?_; intro _ _) | (refine za ?_; intro _ _) | (refine zs ?_; intro _ _))
    refine TL_index 0 rfl rfl rfl (fun w h => h.sl hs0) rfl (Nat.lt_succ_self 0) (Nat.le_refl 1) ?_
    refine TL_load_eln (u := s) rfl rfl (fun w h => h.sl hs0) rfl rfl ?_
    repeat' (first | refine rn ?_ | (refine zb ?_; intro _ _) | (refine za ?_; intro _ _) | (refine zs ?_; intro _ _) | (refine wo ?_))
    exact TQ_round 1 (by omega) (by omega) sb (fun w h => h.sub su)
  · have hk1 : k = 1 := by omega
    subst hk1
    rw [if_neg (by omega)]
    repeat' (first | refine rn ?_ | (refine zb ?_; intro _ _) | (refine za ?_; intro _ _) | (refine zs ?_; intro _ _))
    exact TQ_ret1 Tryz.results102 (RV.celln rfl mm (by rfl)) (fun w' hs => ⟨rfl, hs.below⟩)
theorem c135 (l : List Int) (v : Int) (ao : Option Addr) (c : Nat) (hn : Small l.length) (w : World) (hl : Sl w 1 encI ao l) : Calls Tryz.prog 135 #[.slice ao l.length c, .int .i64 v] w (RetV w (.int .i64 (fidx (fun x => decide (v = x)) l))) := by
  unfold Small at hn
  refine enter (args := [.slice ao l.length c, .int .i64 v]) Tryz.func135 rfl Tryz.ntmps135 rfl (SH.refl _) ?_
  repeat' (first | refine rn ?_ | (refine zb ?_; intro _ _) | (refine za ?_; intro _ _) | (refine zs ?_; intro _ _))
  refine TC_loop (σ := Nat) (fun k => k ≤ l.length ∧ ∀ i x, i < k → l[i]? = some x → decide (v = x) = false) (fun k => [(0, .slice ao l.length c), (1, .int .i64 v), (7, .int .i64 l.length), (8, .int .i64 k)]) (fun k => []) (fun k => l.length - k) 0 ⟨Nat.zero_le _, fun i x h => by omega⟩ sb (fun w h => h) (fun k hk => ?_)
  repeat' (first | refine rn ?_ | (refine zb ?_; intro _ _) | (refine za ?_; intro _ _) | (refine zs ?_; intro _ _))
  refine TC_cond_dec rfl (fun h1 => ?_) (fun h1 => ?_)
  · have hlt : k < l.length := by omega
    obtain ⟨x, hx⟩ : ∃ x, l[k]? = some x := ⟨_, List.getElem?_eq_getElem hlt⟩
    repeat' (first | refine rn ?_ | (refine zb ?_; intro _ _) | (refine za ?_; intro _ _) | (refine zs ?_; intro _ _))
    refine TL_index k rfl rfl rfl (fun w h => h.sl hl) rfl hlt (Nat.le_refl _) ?_
    refine TL_load_el1 (u := x) rfl rfl (fun w h => h.sl hl) hx rfl ?_
    repeat' (first | refine rn ?_ | (refine zb ?_; intro _ _) | (refine za ?_; intro _ _) | (refine zs ?_; intro _ _))
    refine TC_cond_dec rfl (fun h2 => ?_) (fun h2 => ?_)
    · repeat' (first | refine rn ?_ | (refine zb ?_; intro _ _) | (refine za ?_; intro _ _) | (refine zs ?_; intro _ _))
      refine TQ_ret1 Tryz.results135 (RV.tmp rfl) (fun w' hs => ⟨by rw [fidx_at hx (decide_eq_true h2) hk.2], hs.below⟩)
    · repeat' (first | refine rn ?_ | (refine zb ?_; intro _ _) | (refine za ?_; intro _ _) | (refine zs ?_; intro _ _))
      refine TQ_round (k + 1) ⟨by omega, fun i y hi hy => ?_⟩ (by omega) sb (fun w h => h)
      rcases Nat.lt_or_ge i k with h | h
      · exact hk.2 i y h hy
      · have : i = k := by omega
        subst this; rw [hx] at hy; cases hy; exact decide_eq_false h2
  · have hkl : k = l.length := by omega
    subst hkl
    repeat' (first | refine rn ?_ | (refine zb ?_; intro _ _) | (refine za ?_; intro _ _) | (refine zs ?_; intro _ _))
    refine TQ_ret1 Tryz.results135 (RV.tmp rfl) (fun w' hs => ⟨?_, hs.below⟩)
    rw [fidx_none (fun x hx => by
      obtain ⟨i, hi, rfl⟩ := List.getElem_of_mem hx
      exact hk.2 i _ hi (List.getElem?_eq_getElem hi))]
theorem c101 (l : List Int) (v : Int) (ao : Option Addr) (c : Nat) (hn : Small l.length) (w : World) (hl : Sl w 1 encI ao l) : Calls Tryz.prog 101 #[.slice ao l.length c, .int .i64 v] w (RetV w (.bool (l.any fun x => decide (v = x)))) := by
  refine enter (args := [.slice ao l.length c, .int .i64 v]) Tryz.func101 rfl Tryz.ntmps101 rfl (SH.refl _) ?_
  repeat' (first | refine rn ?_ | (refine zb ?_; intro _ _) | (refine za ?_; intro _ _) | (refine zs ?_; intro _ _))
  refine TL_callV rfl rfl rfl (fun w h => c135 l v ao c hn w (h.sl hl)) ?_
  repeat' (first | refine rn ?_ | (refine zb ?_; intro _ _) | (refine za ?_; intro _ _) | (refine zs ?_; intro _ _))
  exact TQ_ret1 Tryz.results101 (RV.tmp rfl) (fun w' hs => ⟨by rw [fidx_any], hs.below⟩)
end Go.Proofs.YtkpkebpofpcmaaaGreatDoor

namespace Go.Proofs.YtkpkebpofpcmaaaGreatDoor
open Go Go.Eng Go.RowKit Go.Proofs
set_option maxHeartbeats 4000000
set_option maxRecDepth 10000
attribute [local irreducible] TL TC TQ

/-- Uses follow one another. -/
def rightP (n : Nt) : Int → List Us → Prop
  | _, [] => True
  | last, u :: l => In u.field 0 ((n.fields.length : Int) - 1) ∧ last ≤ u.turn.1 ∧ u.turn.1 < u.turn.2 ∧ u.turn.2 ≤ n.days * 1440 ∧ rightP n u.turn.2 l
theorem rightP_get {n : Nt} : ∀ {l : List Us} {last : Int} {i : Nat} {u : Us}, rightP n last l → l[i]? = some u → In u.field 0 ((n.fields.length : Int) - 1) ∧ last ≤ u.turn.1 ∧ u.turn.1 < u.turn.2 ∧ u.turn.2 ≤ n.days * 1440
  | x :: l, last, 0, u, h, hu => by simp at hu; subst hu; exact ⟨h.1, h.2.1, h.2.2.1, h.2.2.2.1⟩
  | x :: l, last, i + 1, u, h, hu => by
    obtain ⟨h1, h2, h3, h4⟩ := rightP_get (i := i) h.2.2.2.2 (by simpa using hu)
    have a1 := h.2.1; have a2 := h.2.2.1
    exact ⟨h1, by omega, h3, h4⟩
def lastU (l : List Us) (k : Nat) : Int := if k = 0 then 0 else match l[k - 1]? with | some u => u.turn.2 | none => 0
theorem rightP_last {n : Nt} : ∀ {l : List Us} {last : Int} {i : Nat} {u : Us}, rightP n last l → l[i]? = some u → (∀ v, l[i - 1]? = some v → 0 < i → v.turn.2 ≤ u.turn.1)
  | x :: l, last, 0, u, _, _, v, _, h => by omega
  | x :: l, last, 1, u, h, hu, v, hv, _ => by
    simp at hv; subst hv
    cases l with
    | nil => simp at hu
    | cons y l => simp at hu; subst hu; exact h.2.2.2.2.2.1
  | x :: l, last, i + 2, u, h, hu, v, hv, _ => rightP_last (i := i + 1) h.2.2.2.2 (by simpa using hu) v (by simpa using hv) (by omega)
theorem c50t (n : Nt) (hn : OkNt n) (l : List Int) (ao : Option Addr) (c : Nat) (hl : Small l.length) (w : World) (ha : Sl w 1 encI ao l) (h : ∀ x ∈ l, In x 0 ((n.fields.length : Int) - 1)) : Calls Tryz.prog 50 #[.agg (encNt n).toArray, .slice ao l.length c] w (RetV w (.bool true)) := by
  have := c50 n hn l ao c hl w ha
  rw [decide_eq_true h] at this
  exact this
theorem c58 (n : Nt) (hn : OkNt n) (l : List Us) (ao : Option Addr) (c : Nat) (h60 : l.length ≤ 60) (hr : rightP n 0 l) (w : World) (hl : Sl w 3 encUs ao l) : Calls Tryz.prog 58 #[.agg (encNt n).toArray, .slice ao l.length c] w (RetV w (.bool true)) := by
  refine enter (args := [.agg (encNt n).toArray, .slice ao l.length c]) Tryz.func58 rfl Tryz.ntmps58 rfl (SH.refl _) ?_
  repeat' (first | refine rn ?_ | (refine zb ?_; intro _ _) | (refine za ?_; intro _ _) | (refine zs ?_; intro _ _))
  rename_i b2 _
  refine TC_loop (σ := Nat) (fun k => k ≤ l.length) (fun k => [(1, .slice ao l.length c), (2, .pointer (some ⟨b2, 0, none⟩)), (5, .int .i64 (lastU l k)), (8, .slice ao l.length c), (9, .int .i64 l.length), (10, .int .i64 k)]) (fun k => [(b2, .cells (encNt n) 128)]) (fun k => l.length - k) 0 (Nat.zero_le _) sb (fun w h => h) (fun k hk => ?_)
  repeat' (first | refine rn ?_ | (refine zb ?_; intro _ _) | (refine za ?_; intro _ _) | (refine zs ?_; intro _ _))
  refine TC_cond_dec rfl (fun g1 => ?_) (fun g1 => ?_)
  · have hlt : k < l.length := by omega
    obtain ⟨u, hu⟩ : ∃ x, l[k]? = some x := ⟨_, List.getElem?_eq_getElem hlt⟩
    obtain ⟨q1, q2, q3, q4⟩ := rightP_get hr hu
    have q5 : lastU l k ≤ u.turn.1 := by
      unfold lastU
      by_cases h0 : k = 0
      · rw [if_pos h0]; exact q2
      · rw [if_neg h0]
        cases hv : l[k - 1]? with
        | none => exact q2
        | some v => exact rightP_last hr hu v hv (by omega)
    have q6 : lastU l (k + 1) = u.turn.2 := by
      unfold lastU
      rw [if_neg (by omega), Nat.add_sub_cancel, hu]
    repeat' (first | refine rn ?_ | (refine zb ?_; intro _ _) | (refine za ?_; intro _ _) | (refine zs ?_; intro _ _))
    refine TL_index k rfl rfl rfl (fun w h => h.sl hl) rfl hlt (Nat.le_refl _) ?_
    refine TL_load_eln (u := u) rfl rfl (fun w h => h.sl hl) hu rfl ?_
    repeat' (first | refine rn ?_ | (refine zb ?_; intro _ _) | (refine za ?_; intro _ _) | (refine zs ?_; intro _ _))
    rename_i b7 _
    apply TC_draw 30; kernel_rfl; exact Tryz.mixed
    · iterate 3 (refine' pv ?_; rotate_left)
      (refine' PG.rel ((fun v h => ∃ b, v = .slice (some ⟨b, 0, none⟩) 1 1 ∧ h = [(b, .cells (encI u.field) 3)])) rfl rfl (by intro _X; apply TL_buildSlice; exact rfl; exact rfl; exact rfl; exact rfl; exact rfl; intro b _; exact TL_nil (TQ_QR (h := [(b, _)]) rfl ⟨b, rfl, rfl⟩ (fun _ h => h))) ?_; rotate_left)
      (refine' PG.val rfl rfl (by rintro _ _ ⟨vb, rfl, rfl⟩ _X; refine TL_callV rfl rfl rfl (fun w h => c50t n hn [u.field] _ 1 (by simp [Small]) w (Sl.of_blk h (List.Mem.head _) (fun _ _ => rfl) ⟨[], rfl⟩) (fun x hx => by rw [List.mem_singleton.1 hx]; exact q1)) ?_; exact qe) ?_; rotate_left)
      iterate 2 (refine' pv ?_; rotate_left)
      iterate 4 (refine' pg ?_; rotate_left)
      (refine' PG.val rfl rfl (by intro _X; (refine TL_guard_yes rfl rfl rfl ?_); refine TL_lss_f rfl rfl rfl (by omega) ?_; exact qe) ?_; rotate_left)
      iterate 2 (refine' pv ?_; rotate_left)
      iterate 6 (refine' pg ?_; rotate_left)
      (refine' PG.val rfl rfl (by intro _X; (refine TL_guard_yes rfl rfl rfl ?_); refine TL_leq_f rfl rfl rfl (by omega) ?_; exact qe) ?_; rotate_left)
      iterate 2 (refine' pv ?_; rotate_left)
      iterate 4 (refine' pg ?_; rotate_left)
      (refine' PG.val rfl rfl (by intro _X; (refine TL_guard_yes rfl rfl rfl ?_); refine TL_callV rfl rfl rfl (fun w h => c54 n hn w) ?_; exact qe) ?_; rotate_left)
      (refine' PG.val rfl rfl (by intro _X; (refine TL_guard_yes rfl rfl rfl ?_); refine TL_gtr_f rfl rfl rfl (by omega) ?_; exact qe) ?_; rotate_left)
      (refine' pv ?_; rotate_left)
      exact PG.nil
    rintro _ _ ⟨vb, rfl, rfl⟩
    change TL _ _ _ _ _ _ _ _ _ _ _
    repeat' (first | refine rn ?_ | (refine zb ?_; intro _ _) | (refine za ?_; intro _ _) | (refine zs ?_; intro _ _))
    refine TQ_round (k + 1) (by omega) (by omega) (by rw [q6]; exact sb) (fun w h => h.sub (List.Sublist.cons _ (List.Sublist.cons _ (List.Sublist.refl _))))
  · repeat' (first | refine rn ?_ | (refine zb ?_; intro _ _) | (refine za ?_; intro _ _) | (refine zs ?_; intro _ _))
    refine TQ_ret1 Tryz.results58 (RV.tmp rfl) (fun w' hs => ⟨by rw [decide_eq_true (by omega)], hs.below⟩)
end Go.Proofs.YtkpkebpofpcmaaaGreatDoor
