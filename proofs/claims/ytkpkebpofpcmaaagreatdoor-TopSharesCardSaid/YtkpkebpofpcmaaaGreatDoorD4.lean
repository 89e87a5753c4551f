/- Walks of the package deed: whether a deed is valid. -/
import Derived.Test.YtkpkebpofpcmaaaGreatDoorD2
namespace Go.Proofs.YtkpkebpofpcmaaaGreatDoor
open Go Go.Eng Go.RowKit Go.Proofs
set_option maxHeartbeats 4000000
set_option maxRecDepth 10000
attribute [local irreducible] TL TC TQ

theorem zero222 (w : World) : (zeroValue 222).run Tryz.prog w = .ok (.agg #[.bool false, .bool false, .bool false, .bool false, .nilFunc]) w := by
  obtain ⟨i, hi, hz⟩ := Option.map_eq_some_iff.1 (show (Tryz.prog.info? 222).map (fun i => i.zero) = some (some (Value.agg #[.bool false, .bool false, .bool false, .bool false, .nilFunc])) by kernel_rfl)
  simp [zeroValue, typeInfo, hi, hz]
def toV (x : Dd) (a : Bool) : Bool := if a then decide (In x.to 1 9999 ∧ x.to ≠ x.fr) else decide (x.to = 0)
def tuV (r : Ro) (x : Dd) (b : Bool) : Bool := if b then decide (Tn x.turn 0 (endR r)) else decide ([x.turn.1, x.turn.2] = [0, 0])
def unV (x : Dd) (c : Bool) : Bool := if c then decide (In x.until_ (wr (x.day + 1)) 100001) else decide (x.until_ = 0)
def heV (x : Dd) (d : Bool) : Bool := if d then inhB x.fr x.heirs else decide ((x.heirs.length : Int) = 0)
def headOk (x : Dd) : Prop := In x.id 0 9999 ∧ In x.day 0 100000 ∧ In x.fr 1 9999
def flagB (r : Ro) (x : Dd) (a b c d : Bool) : Bool := toV x a && (tuV r x b && (unV x c && heV x d))
theorem c122_no (r : Ro) (x : Dd) (e : kindsF x.kind = none) (w : World) : Calls Tryz.prog 122 #[.agg (encRo r).toArray, .agg (encDd x).toArray] w (RetV w (.bool false)) := by
  refine enter (args := [.agg (encRo r).toArray, .agg (encDd x).toArray]) Tryz.func122 rfl Tryz.ntmps122 rfl (SH.refl _) ?_
  repeat' (first | refine rn ?_ | (refine zb ?_; intro _ _) | (refine za ?_; intro _ _) | (refine zs ?_; intro _ _))
  rename_i b2 _ b3 _
  apply TC_draw3 8 6; kernel_rfl; exact Tryz.mixed
  · (refine' PG.rel ((fun v h => ∃ bm es clk, v = .map (some bm) ∧ h = [(bm, .obj (.map es clk))] ∧ MR .u8 es.toList kindsF)) rfl rfl (by intro _X; refine TL_callN rfl rfl rfl (fun w h => c130 w) ?_; rintro ⟨bm, es, clk⟩ hm; exact TL_nil (TQ_QR (h := [(bm, _)]) rfl ⟨bm, es, clk, rfl, rfl, hm⟩ (fun _ h => h))) ?_; rotate_left)
    iterate 2 (refine' pv ?_; rotate_left)
    (refine' PG.val rfl rfl (by rintro _ _ ⟨bm, es, clk, rfl, rfl, hm⟩ _X; refine TL_lookupOk (v := .agg #[.bool false, .bool false, .bool false, .bool false, .nilFunc]) (p := false) rfl rfl rfl mm hm zero222 (by rw [e]; rfl) (by rw [e]; rfl) ?_; exact qe) ?_; rotate_left)
    iterate 3 (refine' pv ?_; rotate_left)
    (refine' pn ?_; rotate_left)
    exact PG.nil
  · rintro _ _ ⟨b5, _, rfl, rfl⟩ _ _ ⟨bm, es, clk, rfl, rfl, hm⟩; change TL _ _ _ _ _ _ _ _ _ _ _; refine r1 ?_; exact TL_nil TQ_endN
  rintro _ _ ⟨b5, _, rfl, rfl⟩ _ _ ⟨bm, es, clk, rfl, rfl, hm⟩
  change TL _ _ _ _ _ _ _ _ _ _ _
  repeat' (first | refine rn ?_ | (refine zb ?_; intro _ _) | (refine za ?_; intro _ _) | (refine zs ?_; intro _ _))
  exact TQ_ret1 Tryz.results122 (RV.tmp rfl) (fun w' hs => ⟨rfl, hs.below⟩)
theorem c122_bad (r : Ro) (x : Dd) (a b c d : Bool) (f : FuncId) (e : kindsF x.kind = some (kdV a b c d f)) (hh : ¬ headOk x) (w : World) : Calls Tryz.prog 122 #[.agg (encRo r).toArray, .agg (encDd x).toArray] w (RetV w (.bool false)) := by
  refine enter (args := [.agg (encRo r).toArray, .agg (encDd x).toArray]) Tryz.func122 rfl Tryz.ntmps122 rfl (SH.refl _) ?_
  repeat' (first | refine rn ?_ | (refine zb ?_; intro _ _) | (refine za ?_; intro _ _) | (refine zs ?_; intro _ _))
  rename_i b2 _ b3 _
  apply TC_draw3 8 6; kernel_rfl; exact Tryz.mixed
  · (refine' PG.rel ((fun v h => ∃ bm es clk, v = .map (some bm) ∧ h = [(bm, .obj (.map es clk))] ∧ MR .u8 es.toList kindsF)) rfl rfl (by intro _X; refine TL_callN rfl rfl rfl (fun w h => c130 w) ?_; rintro ⟨bm, es, clk⟩ hm; exact TL_nil (TQ_QR (h := [(bm, _)]) rfl ⟨bm, es, clk, rfl, rfl, hm⟩ (fun _ h => h))) ?_; rotate_left)
    iterate 2 (refine' pv ?_; rotate_left)
    (refine' PG.val rfl rfl (by rintro _ _ ⟨bm, es, clk, rfl, rfl, hm⟩ _X; refine TL_lookupOk (v := kdV a b c d f) (p := true) rfl rfl rfl mm hm zero222 (by rw [e]; rfl) (by rw [e]; rfl) ?_; exact qe) ?_; rotate_left)
    iterate 3 (refine' pv ?_; rotate_left)
    (refine' pn ?_; rotate_left)
    exact PG.nil
  · rintro _ _ ⟨b5, _, rfl, rfl⟩ _ _ ⟨bm, es, clk, rfl, rfl, hm⟩; change TL _ _ _ _ _ _ _ _ _ _ _; refine r1 ?_; exact TL_nil TQ_endN
  rintro _ _ ⟨b5, _, rfl, rfl⟩ _ _ ⟨bm, es, clk, rfl, rfl, hm⟩
  change TL _ _ _ _ _ _ _ _ _ _ _
  repeat' (first | refine rn ?_ | (refine zb ?_; intro _ _) | (refine za ?_; intro _ _) | (refine zs ?_; intro _ _))
  refine TL_callV rfl rfl rfl (fun w h => c86 x.id _ _ w) ?_
  by_cases q1 : In x.id 0 9999
  rotate_left
  · rw [decide_eq_false q1]
    repeat' (first | refine rn ?_ | (refine zb ?_; intro _ _) | (refine za ?_; intro _ _) | (refine zs ?_; intro _ _))
    exact TQ_ret1 Tryz.results122 (RV.tmp rfl) (fun w' hs => ⟨rfl, hs.below⟩)
  rw [decide_eq_true q1]
  repeat' (first | refine rn ?_ | (refine zb ?_; intro _ _) | (refine za ?_; intro _ _) | (refine zs ?_; intro _ _))
  refine TL_callV rfl rfl rfl (fun w h => c86 x.day _ _ w) ?_
  by_cases q2 : In x.day 0 100000
  rotate_left
  · rw [decide_eq_false q2]
    repeat' (first | refine rn ?_ | (refine zb ?_; intro _ _) | (refine za ?_; intro _ _) | (refine zs ?_; intro _ _))
    exact TQ_ret1 Tryz.results122 (RV.tmp rfl) (fun w' hs => ⟨rfl, hs.below⟩)
  rw [decide_eq_true q2]
  repeat' (first | refine rn ?_ | (refine zb ?_; intro _ _) | (refine za ?_; intro _ _) | (refine zs ?_; intro _ _))
  refine TL_callV rfl rfl rfl (fun w h => c113 x.fr w) ?_
  rw [decide_eq_false (fun q3 => hh ⟨q1, q2, q3⟩)]
  repeat' (first | refine rn ?_ | (refine zb ?_; intro _ _) | (refine za ?_; intro _ _) | (refine zs ?_; intro _ _))
  exact TQ_ret1 Tryz.results122 (RV.tmp rfl) (fun w' hs => ⟨rfl, hs.below⟩)
theorem c122_ok (r : Ro) (x : Dd) (a b c d : Bool) (f : FuncId) (e : kindsF x.kind = some (kdV a b c d f)) (hh : headOk x) (hn : Small x.heirs.length) (w : World) (hx : Sl w 2 encSp x.ao x.heirs) : Calls Tryz.prog 122 #[.agg (encRo r).toArray, .agg (encDd x).toArray] w (RetV w (.bool (flagB r x a b c d))) := by
  obtain ⟨q1, q2, q3⟩ := hh
  refine enter (args := [.agg (encRo r).toArray, .agg (encDd x).toArray]) Tryz.func122 rfl Tryz.ntmps122 rfl (SH.refl _) ?_
  repeat' (first | refine rn ?_ | (refine zb ?_; intro _ _) | (refine za ?_; intro _ _) | (refine zs ?_; intro _ _))
  rename_i b2 _ b3 _
  apply TC_draw3 8 6; kernel_rfl; exact Tryz.mixed
  · (refine' PG.rel ((fun v h => ∃ bm es clk, v = .map (some bm) ∧ h = [(bm, .obj (.map es clk))] ∧ MR .u8 es.toList kindsF)) rfl rfl (by intro _X; refine TL_callN rfl rfl rfl (fun w h => c130 w) ?_; rintro ⟨bm, es, clk⟩ hm; exact TL_nil (TQ_QR (h := [(bm, _)]) rfl ⟨bm, es, clk, rfl, rfl, hm⟩ (fun _ h => h))) ?_; rotate_left)
    iterate 2 (refine' pv ?_; rotate_left)
    (refine' PG.val rfl rfl (by rintro _ _ ⟨bm, es, clk, rfl, rfl, hm⟩ _X; refine TL_lookupOk (v := kdV a b c d f) (p := true) rfl rfl rfl mm hm zero222 (by rw [e]; rfl) (by rw [e]; rfl) ?_; exact qe) ?_; rotate_left)
    iterate 3 (refine' pv ?_; rotate_left)
    (refine' pn ?_; rotate_left)
    exact PG.nil
  · rintro _ _ ⟨b5, _, rfl, rfl⟩ _ _ ⟨bm, es, clk, rfl, rfl, hm⟩; change TL _ _ _ _ _ _ _ _ _ _ _; refine r1 ?_; exact TL_nil TQ_endN
  rintro _ _ ⟨b5, _, rfl, rfl⟩ _ _ ⟨bm, es, clk, rfl, rfl, hm⟩
  change TL _ _ _ _ _ _ _ _ _ _ _
  repeat' (first | refine rn ?_ | (refine zb ?_; intro _ _) | (refine za ?_; intro _ _) | (refine zs ?_; intro _ _))
  refine TL_callV rfl rfl rfl (fun w h => c86 x.id _ _ w) ?_
  rw [decide_eq_true q1]
  repeat' (first | refine rn ?_ | (refine zb ?_; intro _ _) | (refine za ?_; intro _ _) | (refine zs ?_; intro _ _))
  refine TL_callV rfl rfl rfl (fun w h => c86 x.day _ _ w) ?_
  rw [decide_eq_true q2]
  repeat' (first | refine rn ?_ | (refine zb ?_; intro _ _) | (refine za ?_; intro _ _) | (refine zs ?_; intro _ _))
  refine TL_callV rfl rfl rfl (fun w h => c113 x.fr w) ?_
  rw [decide_eq_true q3]
  repeat' (first | refine rn ?_ | (refine zb ?_; intro _ _) | (refine za ?_; intro _ _) | (refine zs ?_; intro _ _))
  apply TC_draw 18; kernel_rfl; exact Tryz.mixed
  · iterate 18 (refine' pv ?_; rotate_left)
    exact PG.nil
  change TL _ _ _ _ _ _ _ _ _ _ _
  repeat' (first | refine rn ?_ | (refine zb ?_; intro _ _) | (refine za ?_; intro _ _) | (refine zs ?_; intro _ _))
  refine TC_join (σ := Unit) (fun _ => True) (fun _ => [(2, .pointer (some ⟨b2, 0, none⟩)), (3, .pointer (some ⟨b3, 0, none⟩)), (5, .pointer (some ⟨b5, 0, none⟩)), (7, .bool (toV x a)), (8, .bool (decide ([x.turn.1, x.turn.2] = [0, 0]))), (9, .bool (decide (x.until_ = 0))), (10, .bool (decide ((x.heirs.length : Int) = 0)))])
    (fun _ => [(b5, .cells [.bool a, .bool b, .bool c, .bool d, .func (.func f) #[] #[]] 222), (b3, .cells (encDd x) 50), (b2, .cells (encRo r) 43)]) ?_ (fun _ _ => ?_)
  · refine TC_cond rfl (fun ga => ?_) (fun ga => ?_)
    · subst ga
      repeat' (first | refine rn ?_ | (refine zb ?_; intro _ _) | (refine za ?_; intro _ _) | (refine zs ?_; intro _ _))
      refine TL_callV rfl rfl rfl (fun w h => c113 x.to w) ?_
      repeat' (first | refine rn ?_ | (refine zb ?_; intro _ _) | (refine za ?_; intro _ _) | (refine zs ?_; intro _ _))
      refine TL_gsplit_dec rfl rfl (fun g1 => ?_) (fun g1 => ?_)
      · have e1 : decide (x.to ≠ x.fr) = toV x true := by unfold toV; rw [if_pos rfl, decide_eq_decide]; exact ⟨fun h => ⟨g1, h⟩, fun h => h.2⟩
        rw [← e1]
        repeat' (first | refine rn ?_ | (refine zb ?_; intro _ _) | (refine za ?_; intro _ _) | (refine zs ?_; intro _ _))
        exact TQ_mid () trivial sb (fun w h => h.sub su)
      · have e1 : false = toV x true := by unfold toV; rw [if_pos rfl, decide_eq_false (fun h => g1 h.1)]
        rw [← e1]
        repeat' (first | refine rn ?_ | (refine zb ?_; intro _ _) | (refine za ?_; intro _ _) | (refine zs ?_; intro _ _))
        exact TQ_mid () trivial sb (fun w h => h.sub su)
    · subst ga
      repeat' (first | refine rn ?_ | (refine zb ?_; intro _ _) | (refine za ?_; intro _ _) | (refine zs ?_; intro _ _))
      exact TQ_mid () trivial sb (fun w h => h.sub su)
  repeat' (first | refine rn ?_ | (refine zb ?_; intro _ _) | (refine za ?_; intro _ _) | (refine zs ?_; intro _ _))
  refine TC_join (σ := Unit) (fun _ => True) (fun _ => [(2, .pointer (some ⟨b2, 0, none⟩)), (3, .pointer (some ⟨b3, 0, none⟩)), (5, .pointer (some ⟨b5, 0, none⟩)), (7, .bool (toV x a)), (8, .bool (tuV r x b)), (9, .bool (decide (x.until_ = 0))), (10, .bool (decide ((x.heirs.length : Int) = 0)))])
    (fun _ => [(b5, .cells [.bool a, .bool b, .bool c, .bool d, .func (.func f) #[] #[]] 222), (b3, .cells (encDd x) 50), (b2, .cells (encRo r) 43)]) ?_ (fun _ _ => ?_)
  · refine TC_cond rfl (fun gg => ?_) (fun gg => ?_)
    · subst gg
      repeat' (first | refine rn ?_ | (refine zb ?_; intro _ _) | (refine za ?_; intro _ _) | (refine zs ?_; intro _ _))
      apply TC_draw 5; kernel_rfl; exact Tryz.mixed
      · iterate 3 (refine' pv ?_; rotate_left)
        (refine' PG.val rfl rfl (by intro _X; refine TL_callV rfl rfl rfl (fun w h => c149 r w) ?_; exact qe) ?_; rotate_left)
        (refine' PG.val rfl rfl (by intro _X; refine TL_callV rfl rfl rfl (fun w h => c112 x.turn 0 (endR r) w) ?_; exact qe) ?_; rotate_left)
        exact PG.nil
      change TL _ _ _ _ _ _ _ _ _ _ _
      repeat' (first | refine rn ?_ | (refine zb ?_; intro _ _) | (refine za ?_; intro _ _) | (refine zs ?_; intro _ _))
      exact TQ_mid () trivial sb (fun w h => h.sub su)
    · subst gg
      repeat' (first | refine rn ?_ | (refine zb ?_; intro _ _) | (refine za ?_; intro _ _) | (refine zs ?_; intro _ _))
      exact TQ_mid () trivial sb (fun w h => h.sub su)
  repeat' (first | refine rn ?_ | (refine zb ?_; intro _ _) | (refine za ?_; intro _ _) | (refine zs ?_; intro _ _))
  refine TC_join (σ := Unit) (fun _ => True) (fun _ => [(2, .pointer (some ⟨b2, 0, none⟩)), (3, .pointer (some ⟨b3, 0, none⟩)), (5, .pointer (some ⟨b5, 0, none⟩)), (7, .bool (toV x a)), (8, .bool (tuV r x b)), (9, .bool (unV x c)), (10, .bool (decide ((x.heirs.length : Int) = 0)))])
    (fun _ => [(b5, .cells [.bool a, .bool b, .bool c, .bool d, .func (.func f) #[] #[]] 222), (b3, .cells (encDd x) 50), (b2, .cells (encRo r) 43)]) ?_ (fun _ _ => ?_)
  · refine TC_cond rfl (fun gg => ?_) (fun gg => ?_)
    · subst gg
      repeat' (first | refine rn ?_ | (refine zb ?_; intro _ _) | (refine za ?_; intro _ _) | (refine zs ?_; intro _ _) | (refine wo ?_))
      refine TL_callV rfl rfl rfl (fun w h => c86 x.until_ _ _ w) ?_
      repeat' (first | refine rn ?_ | (refine zb ?_; intro _ _) | (refine za ?_; intro _ _) | (refine zs ?_; intro _ _))
      exact TQ_mid () trivial sb (fun w h => h.sub su)
    · subst gg
      repeat' (first | refine rn ?_ | (refine zb ?_; intro _ _) | (refine za ?_; intro _ _) | (refine zs ?_; intro _ _))
      exact TQ_mid () trivial sb (fun w h => h.sub su)
  repeat' (first | refine rn ?_ | (refine zb ?_; intro _ _) | (refine za ?_; intro _ _) | (refine zs ?_; intro _ _))
  refine TC_join (σ := Unit) (fun _ => True) (fun _ => [(2, .pointer (some ⟨b2, 0, none⟩)), (3, .pointer (some ⟨b3, 0, none⟩)), (5, .pointer (some ⟨b5, 0, none⟩)), (7, .bool (toV x a)), (8, .bool (tuV r x b)), (9, .bool (unV x c)), (10, .bool (heV x d))])
    (fun _ => [(b5, .cells [.bool a, .bool b, .bool c, .bool d, .func (.func f) #[] #[]] 222), (b3, .cells (encDd x) 50), (b2, .cells (encRo r) 43)]) ?_ (fun _ _ => ?_)
  · refine TC_cond rfl (fun gg => ?_) (fun gg => ?_)
    · subst gg
      repeat' (first | refine rn ?_ | (refine zb ?_; intro _ _) | (refine za ?_; intro _ _) | (refine zs ?_; intro _ _))
      refine TL_callV rfl rfl rfl (fun w h => c151 x.fr x.heirs x.ao x.cap hn w (h.sl hx)) ?_
      repeat' (first | refine rn ?_ | (refine zb ?_; intro _ _) | (refine za ?_; intro _ _) | (refine zs ?_; intro _ _))
      exact TQ_mid () trivial sb (fun w h => h.sub su)
    · subst gg
      repeat' (first | refine rn ?_ | (refine zb ?_; intro _ _) | (refine za ?_; intro _ _) | (refine zs ?_; intro _ _))
      exact TQ_mid () trivial sb (fun w h => h.sub su)
  unfold flagB
  repeat' (first | refine rn ?_ | (refine zb ?_; intro _ _) | (refine za ?_; intro _ _) | (refine zs ?_; intro _ _))
  cases hA : toV x a with
  | false =>
    repeat' (first | refine rn ?_ | (refine zb ?_; intro _ _) | (refine za ?_; intro _ _) | (refine zs ?_; intro _ _))
    exact TQ_ret1 Tryz.results122 (RV.tmp rfl) (fun w' hs => ⟨rfl, hs.below⟩)
  | true =>
    cases hB : tuV r x b with
    | false =>
      repeat' (first | refine rn ?_ | (refine zb ?_; intro _ _) | (refine za ?_; intro _ _) | (refine zs ?_; intro _ _))
      exact TQ_ret1 Tryz.results122 (RV.tmp rfl) (fun w' hs => ⟨rfl, hs.below⟩)
    | true =>
      cases hC : unV x c with
      | false =>
        repeat' (first | refine rn ?_ | (refine zb ?_; intro _ _) | (refine za ?_; intro _ _) | (refine zs ?_; intro _ _))
        exact TQ_ret1 Tryz.results122 (RV.tmp rfl) (fun w' hs => ⟨rfl, hs.below⟩)
      | true =>
        repeat' (first | refine rn ?_ | (refine zb ?_; intro _ _) | (refine za ?_; intro _ _) | (refine zs ?_; intro _ _))
        exact TQ_ret1 Tryz.results122 (RV.tmp rfl) (fun w' hs => ⟨rfl, hs.below⟩)
end Go.Proofs.YtkpkebpofpcmaaaGreatDoor
/- Walks of the package deed: whether deeds are alike; copies of heirs; the order of deeds. -/
namespace Go.Proofs.YtkpkebpofpcmaaaGreatDoor
open Go Go.Eng Go.RowKit Go.Proofs
set_option maxHeartbeats 4000000
set_option maxRecDepth 10000
attribute [local irreducible] TL TC TQ

theorem c186 (x : Int) (w : World) : Calls Tryz.prog 186 #[.int .i64 x] w (RetV w (.bool false)) := by
  refine enter (args := [.int .i64 x]) Tryz.func186 rfl Tryz.ntmps186 rfl (SH.refl _) ?_
  repeat' (first | refine rn ?_ | (refine zb ?_; intro _ _) | (refine za ?_; intro _ _) | (refine zs ?_; intro _ _))
  refine TQ_ret1 Tryz.results186 (RV.tmp rfl) (fun w' hs => ⟨?_, hs.below⟩)
  simp
def cmpR (a b : Int) : Int := if a < b then -1 else if b < a then 1 else 0
theorem c155 (a b : Int) (w : World) : Calls Tryz.prog 155 #[.int .i64 a, .int .i64 b] w (RetV w (.int .i64 (cmpR a b))) := by
  refine enter (args := [.int .i64 a, .int .i64 b]) Tryz.func155 rfl Tryz.ntmps155 rfl (SH.refl _) ?_
  repeat' (first | refine rn ?_ | (refine zb ?_; intro _ _) | (refine za ?_; intro _ _) | (refine zs ?_; intro _ _))
  refine TL_callV rfl rfl rfl (fun w h => c186 a w) ?_
  repeat' (first | refine rn ?_ | (refine zb ?_; intro _ _) | (refine za ?_; intro _ _) | (refine zs ?_; intro _ _))
  refine TL_callV rfl rfl rfl (fun w h => c186 b w) ?_
  repeat' (first | refine rn ?_ | (refine zb ?_; intro _ _) | (refine za ?_; intro _ _) | (refine zs ?_; intro _ _))
  unfold cmpR
  refine TC_cond_dec rfl (fun g1 => ?_) (fun g1 => ?_)
  · rw [if_pos g1]
    repeat' (first | refine rn ?_ | (refine zb ?_; intro _ _) | (refine za ?_; intro _ _) | (refine zs ?_; intro _ _))
    exact TQ_ret1 Tryz.results155 (RV.tmp rfl) (fun w' hs => ⟨rfl, hs.below⟩)
  rw [if_neg g1]
  repeat' (first | refine rn ?_ | (refine zb ?_; intro _ _) | (refine za ?_; intro _ _) | (refine zs ?_; intro _ _))
  refine TC_cond_dec rfl (fun g2 => ?_) (fun g2 => ?_)
  · rw [if_pos g2]
    repeat' (first | refine rn ?_ | (refine zb ?_; intro _ _) | (refine za ?_; intro _ _) | (refine zs ?_; intro _ _))
    exact TQ_ret1 Tryz.results155 (RV.tmp rfl) (fun w' hs => ⟨rfl, hs.below⟩)
  rw [if_neg g2]
  repeat' (first | refine rn ?_ | (refine zb ?_; intro _ _) | (refine za ?_; intro _ _) | (refine zs ?_; intro _ _))
  exact TQ_ret1 Tryz.results155 (RV.tmp rfl) (fun w' hs => ⟨rfl, hs.below⟩)
theorem c126 (x : Dd) (w : World) : Calls Tryz.prog 126 #[.agg (encDd x).toArray] w (RetV w (.int .i64 x.day)) := by
  refine enter (args := [.agg (encDd x).toArray]) Tryz.func126 rfl Tryz.ntmps126 rfl (SH.refl _) ?_
  repeat' (first | refine rn ?_ | (refine zb ?_; intro _ _) | (refine za ?_; intro _ _) | (refine zs ?_; intro _ _))
  exact TQ_ret1 Tryz.results126 (RV.tmp rfl) (fun w' hs => ⟨rfl, hs.below⟩)
theorem c127 (x : Dd) (w : World) : Calls Tryz.prog 127 #[.agg (encDd x).toArray] w (RetV w (.int .i64 x.id)) := by
  refine enter (args := [.agg (encDd x).toArray]) Tryz.func127 rfl Tryz.ntmps127 rfl (SH.refl _) ?_
  repeat' (first | refine rn ?_ | (refine zb ?_; intro _ _) | (refine za ?_; intro _ _) | (refine zs ?_; intro _ _))
  exact TQ_ret1 Tryz.results127 (RV.tmp rfl) (fun w' hs => ⟨rfl, hs.below⟩)
end Go.Proofs.YtkpkebpofpcmaaaGreatDoor
