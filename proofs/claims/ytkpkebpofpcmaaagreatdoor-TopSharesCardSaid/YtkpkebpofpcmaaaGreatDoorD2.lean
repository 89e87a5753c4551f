/- Walks of the package deed: whether rolls are valid. -/
import Derived.Test.YtkpkebpofpcmaaaGreatDoorR1
namespace Go.Proofs.YtkpkebpofpcmaaaGreatDoor
open Go Go.Eng Go.RowKit Go.Proofs
set_option maxHeartbeats 2000000
set_option maxRecDepth 10000
attribute [local irreducible] TL TC TQ

theorem c86 (n lo hi : Int) (w : World) : Calls Tryz.prog 86 #[.int .i64 n, .int .i64 lo, .int .i64 hi] w (RetV w (.bool (decide (In n lo hi)))) := by
  refine enter (args := [.int .i64 n, .int .i64 lo, .int .i64 hi]) Tryz.func86 rfl Tryz.ntmps86 rfl (SH.refl _) ?_
  repeat' (first | refine rn ?_ | (refine zb ?_; intro _ _) | (refine za ?_; intro _ _) | (refine zs ?_; intro _ _))
  refine TL_gsplit_dec rfl rfl (fun g1 => ?_) (fun g1 => ?_)
  · repeat' (first | refine rn ?_ | (refine zb ?_; intro _ _) | (refine za ?_; intro _ _) | (refine zs ?_; intro _ _))
    refine TQ_ret1 Tryz.results86 (RV.tmp rfl) (fun w' hs => ⟨?_, hs.below⟩)
    have : n ≤ hi ↔ In n lo hi := by unfold In; omega
    rw [decide_eq_decide.2 this]
  · repeat' (first | refine rn ?_ | (refine zb ?_; intro _ _) | (refine za ?_; intro _ _) | (refine zs ?_; intro _ _))
    exact TQ_ret1 Tryz.results86 (RV.tmp rfl) (fun w' hs => RetV.no (fun h => g1 h.1) hs.below)
theorem c113 (n : Int) (w : World) : Calls Tryz.prog 113 #[.int .i64 n] w (RetV w (.bool (decide (In n 1 9999)))) := by
  refine enter (args := [.int .i64 n]) Tryz.func113 rfl Tryz.ntmps113 rfl (SH.refl _) ?_
  repeat' (first | refine rn ?_ | (refine zb ?_; intro _ _) | (refine za ?_; intro _ _) | (refine zs ?_; intro _ _))
  refine TL_callV rfl rfl rfl (fun w h => c86 n _ _ w) ?_
  repeat' (first | refine rn ?_ | (refine zb ?_; intro _ _) | (refine za ?_; intro _ _) | (refine zs ?_; intro _ _))
  exact TQ_ret1 Tryz.results113 (RV.tmp rfl) (fun w' hs => ⟨rfl, hs.below⟩)
def Tn (t : Sp) (lo hi : Int) : Prop := lo ≤ t.1 ∧ t.1 < t.2 ∧ t.2 ≤ hi
instance (s : Sp) (lo hi : Int) : Decidable (Tn s lo hi) := inferInstanceAs (Decidable (_ ∧ _))
theorem c112 (t : Sp) (lo hi : Int) (w : World) : Calls Tryz.prog 112 #[.agg (encSp t).toArray, .int .i64 lo, .int .i64 hi] w (RetV w (.bool (decide (Tn t lo hi)))) := by
  refine enter (args := [.agg (encSp t).toArray, .int .i64 lo, .int .i64 hi]) Tryz.func112 rfl Tryz.ntmps112 rfl (SH.refl _) ?_
  repeat' (first | refine rn ?_ | (refine zb ?_; intro _ _) | (refine za ?_; intro _ _) | (refine zs ?_; intro _ _))
  refine TL_gsplit_dec rfl rfl (fun g1 => ?_) (fun g1 => ?_)
  · repeat' (first | refine rn ?_ | (refine zb ?_; intro _ _) | (refine za ?_; intro _ _) | (refine zs ?_; intro _ _))
    refine TL_gsplit_dec rfl rfl (fun g2 => ?_) (fun g2 => ?_)
    · repeat' (first | refine rn ?_ | (refine zb ?_; intro _ _) | (refine za ?_; intro _ _) | (refine zs ?_; intro _ _))
      refine TQ_ret1 Tryz.results112 (RV.tmp rfl) (fun w' hs => ⟨?_, hs.below⟩)
      have : t.2 ≤ hi ↔ Tn t lo hi := by unfold Tn; omega
      rw [decide_eq_decide.2 this]
    · repeat' (first | refine rn ?_ | (refine zb ?_; intro _ _) | (refine za ?_; intro _ _) | (refine zs ?_; intro _ _))
      exact TQ_ret1 Tryz.results112 (RV.tmp rfl) (fun w' hs => RetV.no (fun h => g2 h.2.1) hs.below)
  · repeat' (first | refine rn ?_ | (refine zb ?_; intro _ _) | (refine za ?_; intro _ _) | (refine zs ?_; intro _ _))
    exact TQ_ret1 Tryz.results112 (RV.tmp rfl) (fun w' hs => RetV.no (fun h => g1 h.1) hs.below)
/-- The end of the cycle. -/
def endR (r : Ro) : Int := wr (r.days * 1440)
theorem c149 (r : Ro) (w : World) : Calls Tryz.prog 149 #[.agg (encRo r).toArray] w (RetV w (.int .i64 (endR r))) := by
  refine enter (args := [.agg (encRo r).toArray]) Tryz.func149 rfl Tryz.ntmps149 rfl (SH.refl _) ?_
  repeat' (first | refine rn ?_ | (refine zb ?_; intro _ _) | (refine za ?_; intro _ _) | (refine zs ?_; intro _ _) | (refine wo ?_))
  exact TQ_ret1 Tryz.results149 (RV.tmp rfl) (fun w' hs => ⟨rfl, hs.below⟩)
/-- Holds follow one another from a minute to the end. -/
def chainH (e : Int) : Int → List Ho → Prop
  | now, [] => now = e
  | now, h :: l => In h.who 0 9999 ∧ h.turn.1 = now ∧ Tn h.turn now e ∧ chainH e h.turn.2 l
def chainB (e : Int) : Int → List Ho → Bool
  | now, [] => decide (now = e)
  | now, h :: l => decide (In h.who 0 9999 ∧ h.turn.1 = now ∧ Tn h.turn now e) && chainB e h.turn.2 l
theorem chainB_iff (e : Int) : ∀ (l : List Ho) (now : Int), chainB e now l = true ↔ chainH e now l := by
  intro l
  induction l with
  | nil => intro now; simp [chainB, chainH]
  | cons h l ih => intro now; simp only [chainB, chainH, Bool.and_eq_true, decide_eq_true_eq, ih, and_assoc]
def OkRo (r : Ro) : Prop := In r.days 1 16 ∧ In (r.holds.length : Int) 1 60 ∧ chainB (endR r) 0 r.holds = true
instance (r : Ro) : Decidable (OkRo r) := inferInstanceAs (Decidable (_ ∧ _))
def chkRo (r : Ro) : Int := if OkRo r then 0 else 40
theorem chkRo_ok {r : Ro} (h : OkRo r) : chkRo r = 0 := if_pos h
theorem chkRo_no {r : Ro} (h : ¬ OkRo r) : chkRo r = 40 := if_neg h
theorem c119 (r : Ro) (w : World) (hr : Sl w 3 encHo r.ao r.holds) (hn : Small r.holds.length) : Calls Tryz.prog 119 #[.agg (encRo r).toArray] w (RetV w (.int .i64 (chkRo r))) := by
  unfold Small at hn
  refine enter (args := [.agg (encRo r).toArray]) Tryz.func119 rfl Tryz.ntmps119 rfl (SH.refl _) ?_
  repeat' (first | refine rn ?_ | (refine zb ?_; intro _ _) | (refine za ?_; intro _ _) | (refine zs ?_; intro _ _))
  rename_i b1 _
  refine TL_callV rfl rfl rfl (fun w h => c86 r.days _ _ w) ?_
  repeat' (first | refine rn ?_ | (refine zb ?_; intro _ _) | (refine za ?_; intro _ _) | (refine zs ?_; intro _ _))
  refine TL_gsplit_dec rfl rfl (fun g1 => ?_) (fun g1 => ?_)
  · repeat' (first | refine rn ?_ | (refine zb ?_; intro _ _) | (refine za ?_; intro _ _) | (refine zs ?_; intro _ _))
    exact TQ_ret1 Tryz.results119 (RV.tmp rfl) (fun w' hs => ⟨by rw [chkRo_no (fun h => g1 h.1)], hs.below⟩)
  repeat' (first | refine rn ?_ | (refine zb ?_; intro _ _) | (refine za ?_; intro _ _) | (refine zs ?_; intro _ _))
  refine TL_callV rfl rfl rfl (fun w h => c86 (r.holds.length : Int) _ _ w) ?_
  repeat' (first | refine rn ?_ | (refine zb ?_; intro _ _) | (refine za ?_; intro _ _) | (refine zs ?_; intro _ _))
  refine TC_cond_dec rfl (fun g2 => ?_) (fun g2 => ?_)
  · repeat' (first | refine rn ?_ | (refine zb ?_; intro _ _) | (refine za ?_; intro _ _) | (refine zs ?_; intro _ _))
    exact TQ_ret1 Tryz.results119 (RV.tmp rfl) (fun w' hs => ⟨by rw [chkRo_no (fun h => g2 h.2.1)], hs.below⟩)
  have g1' := Classical.not_not.1 g1
  have g2' := Classical.not_not.1 g2
  repeat' (first | refine rn ?_ | (refine zb ?_; intro _ _) | (refine za ?_; intro _ _) | (refine zs ?_; intro _ _))
  refine TC_loop (σ := Nat × Int) (fun q => q.1 ≤ r.holds.length ∧ (chainB (endR r) 0 r.holds = chainB (endR r) q.2 (r.holds.drop q.1))) (fun q => [(1, .pointer (some ⟨b1, 0, none⟩)), (3, .int .i64 q.2), (18, .slice r.ao r.holds.length r.cap), (19, .int .i64 r.holds.length), (20, .int .i64 q.1)]) (fun q => [(b1, .cells (encRo r) 43)]) (fun q => r.holds.length - q.1) (0, 0) ⟨Nat.zero_le _, rfl⟩ sb (fun w h => h) (fun q hq => ?_)
  obtain ⟨k, now⟩ := q
  obtain ⟨hk, hc⟩ := hq
  dsimp only at hk hc ⊢
  repeat' (first | refine rn ?_ | (refine zb ?_; intro _ _) | (refine za ?_; intro _ _) | (refine zs ?_; intro _ _))
  refine TC_cond_dec rfl (fun h1 => ?_) (fun h1 => ?_)
  · have hlt : k < r.holds.length := by omega
    obtain ⟨x, hx⟩ : ∃ x, r.holds[k]? = some x := ⟨_, List.getElem?_eq_getElem hlt⟩
    have hd : r.holds.drop k = x :: r.holds.drop (k + 1) := by
      rw [List.drop_eq_getElem_cons hlt]
      rw [List.getElem?_eq_getElem hlt] at hx
      cases hx; rfl
    rw [hd] at hc
    have hbad : ¬ (In x.who 0 9999 ∧ x.turn.1 = now ∧ Tn x.turn now (endR r)) → chkRo r = 40 := fun h => chkRo_no (fun h' => by
      have := h'.2.2
      rw [hc] at this
      simp only [chainB, Bool.and_eq_true, decide_eq_true_eq] at this
      exact h this.1)
    repeat' (first | refine rn ?_ | (refine zb ?_; intro _ _) | (refine za ?_; intro _ _) | (refine zs ?_; intro _ _))
    refine TL_index k rfl rfl rfl (fun w h => h.sl hr) rfl hlt (Nat.le_refl _) ?_
    refine TL_load_eln (u := x) rfl rfl (fun w h => h.sl hr) hx rfl ?_
    repeat' (first | refine rn ?_ | (refine zb ?_; intro _ _) | (refine za ?_; intro _ _) | (refine zs ?_; intro _ _))
    by_cases q1 : In x.who 0 9999
    rotate_left
    · skip
      apply TC_draw 20; kernel_rfl; exact Tryz.mixed
      · iterate 2 (refine' pv ?_; rotate_left)
        (refine' PG.val rfl rfl (by intro _X; refine TL_callV rfl rfl rfl (fun w h => c86 x.who _ _ w) ?_; rw [decide_eq_false q1]; exact qe) ?_; rotate_left)
        iterate 17 (refine' pv ?_; rotate_left)
        exact PG.nil
      change TL _ _ _ _ _ _ _ _ _ _ _
      repeat' (first | refine rn ?_ | (refine zb ?_; intro _ _) | (refine za ?_; intro _ _) | (refine zs ?_; intro _ _))
      exact TQ_ret1 Tryz.results119 (RV.tmp rfl) (fun w' hs => ⟨by rw [hbad (fun h => q1 h.1)], hs.below⟩)
    by_cases q2 : x.turn.1 = now
    rotate_left
    · skip
      apply TC_draw 20; kernel_rfl; exact Tryz.mixed
      · iterate 2 (refine' pv ?_; rotate_left)
        (refine' PG.val rfl rfl (by intro _X; refine TL_callV rfl rfl rfl (fun w h => c86 x.who _ _ w) ?_; rw [decide_eq_true q1]; exact qe) ?_; rotate_left)
        iterate 2 (refine' pv ?_; rotate_left)
        iterate 4 (refine' pg ?_; rotate_left)
        (refine' PG.val rfl rfl (by intro _X; (refine TL_guard_yes rfl rfl rfl ?_); refine TL_neq_t rfl rfl rfl q2 ?_; exact qe) ?_; rotate_left)
        iterate 10 (refine' pv ?_; rotate_left)
        exact PG.nil
      change TL _ _ _ _ _ _ _ _ _ _ _
      repeat' (first | refine rn ?_ | (refine zb ?_; intro _ _) | (refine za ?_; intro _ _) | (refine zs ?_; intro _ _))
      exact TQ_ret1 Tryz.results119 (RV.tmp rfl) (fun w' hs => ⟨by rw [hbad (fun h => q2 h.2.1)], hs.below⟩)
    by_cases q3 : Tn x.turn now (endR r)
    rotate_left
    · skip
      apply TC_draw 20; kernel_rfl; exact Tryz.mixed
      · iterate 2 (refine' pv ?_; rotate_left)
        (refine' PG.val rfl rfl (by intro _X; refine TL_callV rfl rfl rfl (fun w h => c86 x.who _ _ w) ?_; rw [decide_eq_true q1]; exact qe) ?_; rotate_left)
        iterate 2 (refine' pv ?_; rotate_left)
        iterate 4 (refine' pg ?_; rotate_left)
        (refine' PG.val rfl rfl (by intro _X; (refine TL_guard_yes rfl rfl rfl ?_); refine TL_neq_f rfl rfl rfl q2 ?_; exact qe) ?_; rotate_left)
        iterate 2 (refine' pv ?_; rotate_left)
        iterate 4 (refine' pg ?_; rotate_left)
        (refine' PG.val rfl rfl (by intro _X; (refine TL_guard_yes rfl rfl rfl ?_); refine TL_callV rfl rfl rfl (fun w h => c149 r w) ?_; exact qe) ?_; rotate_left)
        (refine' PG.val rfl rfl (by intro _X; (refine TL_guard_yes rfl rfl rfl ?_); refine TL_callV rfl rfl rfl (fun w h => c112 x.turn now (endR r) w) ?_; rw [decide_eq_false q3]; exact qe) ?_; rotate_left)
        (refine' pg ?_; rotate_left)
        (refine' pv ?_; rotate_left)
        exact PG.nil
      change TL _ _ _ _ _ _ _ _ _ _ _
      repeat' (first | refine rn ?_ | (refine zb ?_; intro _ _) | (refine za ?_; intro _ _) | (refine zs ?_; intro _ _))
      exact TQ_ret1 Tryz.results119 (RV.tmp rfl) (fun w' hs => ⟨by rw [hbad (fun h => q3 h.2.2)], hs.below⟩)
    apply TC_draw 20; kernel_rfl; exact Tryz.mixed
    · iterate 2 (refine' pv ?_; rotate_left)
      (refine' PG.val rfl rfl (by intro _X; refine TL_callV rfl rfl rfl (fun w h => c86 x.who _ _ w) ?_; rw [decide_eq_true q1]; exact qe) ?_; rotate_left)
      iterate 2 (refine' pv ?_; rotate_left)
      iterate 4 (refine' pg ?_; rotate_left)
      (refine' PG.val rfl rfl (by intro _X; (refine TL_guard_yes rfl rfl rfl ?_); refine TL_neq_f rfl rfl rfl q2 ?_; exact qe) ?_; rotate_left)
      iterate 2 (refine' pv ?_; rotate_left)
      iterate 4 (refine' pg ?_; rotate_left)
      (refine' PG.val rfl rfl (by intro _X; (refine TL_guard_yes rfl rfl rfl ?_); refine TL_callV rfl rfl rfl (fun w h => c149 r w) ?_; exact qe) ?_; rotate_left)
      (refine' PG.val rfl rfl (by intro _X; (refine TL_guard_yes rfl rfl rfl ?_); refine TL_callV rfl rfl rfl (fun w h => c112 x.turn now (endR r) w) ?_; rw [decide_eq_true q3]; exact qe) ?_; rotate_left)
      (refine' pg ?_; rotate_left)
      (refine' pv ?_; rotate_left)
      exact PG.nil
    change TL _ _ _ _ _ _ _ _ _ _ _
    repeat' (first | refine rn ?_ | (refine zb ?_; intro _ _) | (refine za ?_; intro _ _) | (refine zs ?_; intro _ _))
    refine TQ_round (k + 1, x.turn.2) ⟨hlt, ?_⟩ (by dsimp only; omega) sb (fun w h => h.sub su)
    rw [hc]
    simp only [chainB, decide_eq_true (show In x.who 0 9999 ∧ x.turn.1 = now ∧ Tn x.turn now (endR r) from ⟨q1, q2, q3⟩), Bool.true_and]
  · have hkl : k = r.holds.length := by omega
    subst hkl
    rw [List.drop_length] at hc
    repeat' (first | refine rn ?_ | (refine zb ?_; intro _ _) | (refine za ?_; intro _ _) | (refine zs ?_; intro _ _))
    refine TL_callV rfl rfl rfl (fun w h => c149 r w) ?_
    repeat' (first | refine rn ?_ | (refine zb ?_; intro _ _) | (refine za ?_; intro _ _) | (refine zs ?_; intro _ _))
    refine TC_cond_dec rfl (fun g3 => ?_) (fun g3 => ?_)
    · have hno : ¬ OkRo r := fun h => by
        have := h.2.2
        rw [hc] at this
        simp only [chainB, decide_eq_true_eq] at this
        exact g3 this
      repeat' (first | refine rn ?_ | (refine zb ?_; intro _ _) | (refine za ?_; intro _ _) | (refine zs ?_; intro _ _))
      exact TQ_ret1 Tryz.results119 (RV.tmp rfl) (fun w' hs => ⟨by rw [chkRo_no hno], hs.below⟩)
    · have hyes : OkRo r := ⟨g1', g2', by
        rw [hc]
        simp only [chainB, decide_eq_true_eq]
        exact Classical.not_not.1 g3⟩
      repeat' (first | refine rn ?_ | (refine zb ?_; intro _ _) | (refine za ?_; intro _ _) | (refine zs ?_; intro _ _))
      exact TQ_ret1 Tryz.results119 (RV.tmp rfl) (fun w' hs => ⟨by rw [chkRo_ok hyes], hs.below⟩)
end Go.Proofs.YtkpkebpofpcmaaaGreatDoor
/- Walks of the package deed: kinds of deeds; whether a deed is valid. -/
namespace Go.Proofs.YtkpkebpofpcmaaaGreatDoor
open Go Go.Eng Go.RowKit Go.Proofs
set_option maxHeartbeats 4000000
set_option maxRecDepth 10000
attribute [local irreducible] TL TC TQ

def kdV (a b c d : Bool) (f : FuncId) : Value := .agg #[.bool a, .bool b, .bool c, .bool d, .func (.func f) #[] #[]]
def kindsF : Int → Option Value :=
  fupd (fupd (fupd (fupd (fun _ => none) 1 (kdV true true false false 156)) 2 (kdV false true false false 157)) 3 (kdV false false false true 158)) 4 (kdV true true true false 159)
theorem c130 (w : World) : Calls Tryz.prog 130 #[] w (RetP w.heap.size w (fun q : Nat × Array MapEntry × Nat => .map (some q.1)) (fun q => [(q.1, .obj (.map q.2.1 q.2.2))]) (fun q => MR .u8 q.2.1.toList kindsF)) := by
  refine enter (args := []) Tryz.func130 rfl Tryz.ntmps130 rfl (SH.refl _) ?_
  repeat' (first | refine rn ?_ | (refine zb ?_; intro _ _) | (refine za ?_; intro _ _) | (refine zs ?_; intro _ _))
  refine TL_makeMap rfl (fun bm _ => ?_)
  repeat' (first | refine rn ?_ | (refine zb ?_; intro _ _) | (refine za ?_; intro _ _) | (refine zs ?_; intro _ _))
  refine TL_mapSet (.inr rfl) rfl rfl rfl (fun _ _ => up) MR.nil (fun es1 k1 m1 => ?_)
  repeat' (first | refine rn ?_ | (refine zb ?_; intro _ _) | (refine za ?_; intro _ _) | (refine zs ?_; intro _ _))
  refine TL_mapSet (.inr rfl) rfl rfl rfl (fun _ _ => up) m1 (fun es2 k2 m2 => ?_)
  repeat' (first | refine rn ?_ | (refine zb ?_; intro _ _) | (refine za ?_; intro _ _) | (refine zs ?_; intro _ _))
  refine TL_mapSet (.inr rfl) rfl rfl rfl (fun _ _ => up) m2 (fun es3 k3 m3 => ?_)
  repeat' (first | refine rn ?_ | (refine zb ?_; intro _ _) | (refine za ?_; intro _ _) | (refine zs ?_; intro _ _))
  refine TL_mapSet (.inr rfl) rfl rfl rfl (fun _ _ => up) m3 (fun es4 k4 m4 => ?_)
  repeat' (first | refine rn ?_ | (refine zb ?_; intro _ _) | (refine za ?_; intro _ _) | (refine zs ?_; intro _ _))
  exact TQ_ret1 Tryz.results130 (RV.tmp rfl) (fun w' hs => ⟨(bm, es4, k4), m4, rfl, hs⟩)
def heirsB (fr : Int) : Int → List Sp → Bool
  | _, [] => true
  | last, h :: l => decide (In h.1 (wr (last + 1)) 9999 ∧ h.1 ≠ fr ∧ In h.2 1 1000) && heirsB fr h.1 l
def inhB (fr : Int) (l : List Sp) : Bool := heirsB fr 0 l && decide (In (l.length : Int) 1 8)
theorem c151 (fr : Int) (l : List Sp) (ao : Option Addr) (c : Nat) (hn : Small l.length) (w : World) (hl : Sl w 2 encSp ao l) : Calls Tryz.prog 151 #[.int .i64 fr, .slice ao l.length c] w (RetV w (.bool (inhB fr l))) := by
  unfold Small at hn
  refine enter (args := [.int .i64 fr, .slice ao l.length c]) Tryz.func151 rfl Tryz.ntmps151 rfl (SH.refl _) ?_
  repeat' (first | refine rn ?_ | (refine zb ?_; intro _ _) | (refine za ?_; intro _ _) | (refine zs ?_; intro _ _))
  refine TC_loop (σ := Nat × Int) (fun q => q.1 ≤ l.length ∧ (heirsB fr 0 l = heirsB fr q.2 (l.drop q.1))) (fun q => [(0, .int .i64 fr), (1, .slice ao l.length c), (5, .int .i64 q.2), (8, .slice ao l.length c), (9, .int .i64 l.length), (10, .int .i64 q.1)]) (fun q => []) (fun q => l.length - q.1) (0, 0) ⟨Nat.zero_le _, rfl⟩ sb (fun w h => h) (fun q hq => ?_)
  obtain ⟨k, now⟩ := q
  obtain ⟨hk, hc⟩ := hq
  dsimp only at hk hc ⊢
  repeat' (first | refine rn ?_ | (refine zb ?_; intro _ _) | (refine za ?_; intro _ _) | (refine zs ?_; intro _ _))
  refine TC_cond_dec rfl (fun h1 => ?_) (fun h1 => ?_)
  · have hlt : k < l.length := by omega
    obtain ⟨x, hx⟩ : ∃ x, l[k]? = some x := ⟨_, List.getElem?_eq_getElem hlt⟩
    have hd : l.drop k = x :: l.drop (k + 1) := by
      rw [List.drop_eq_getElem_cons hlt]
      rw [List.getElem?_eq_getElem hlt] at hx
      cases hx; rfl
    rw [hd] at hc
    have hbad : ¬ (In x.1 (wr (now + 1)) 9999 ∧ x.1 ≠ fr ∧ In x.2 1 1000) → inhB fr l = false := fun h => by
      unfold inhB
      rw [hc]
      simp only [heirsB, decide_eq_false h, Bool.false_and]
    repeat' (first | refine rn ?_ | (refine zb ?_; intro _ _) | (refine za ?_; intro _ _) | (refine zs ?_; intro _ _))
    refine TL_index k rfl rfl rfl (fun w h => h.sl hl) rfl hlt (Nat.le_refl _) ?_
    refine TL_load_eln (u := x) rfl rfl (fun w h => h.sl hl) hx rfl ?_
    repeat' (first | refine rn ?_ | (refine zb ?_; intro _ _) | (refine za ?_; intro _ _) | (refine zs ?_; intro _ _) | (refine wo ?_))
    refine TL_callV rfl rfl rfl (fun w h => c86 x.1 _ _ w) ?_
    by_cases q1 : In x.1 (wr (now + 1)) 9999
    rotate_left
    · rw [decide_eq_false q1]
      repeat' (first | refine rn ?_ | (refine zb ?_; intro _ _) | (refine za ?_; intro _ _) | (refine zs ?_; intro _ _))
      exact TQ_ret1 Tryz.results151 (RV.tmp rfl) (fun w' hs => ⟨by rw [hbad (fun h => q1 h.1)], hs.below⟩)
    rw [decide_eq_true q1]
    repeat' (first | refine rn ?_ | (refine zb ?_; intro _ _) | (refine za ?_; intro _ _) | (refine zs ?_; intro _ _))
    refine TL_gsplit_dec rfl rfl (fun q2 => ?_) (fun q2 => ?_)
    · repeat' (first | refine rn ?_ | (refine zb ?_; intro _ _) | (refine za ?_; intro _ _) | (refine zs ?_; intro _ _))
      exact TQ_ret1 Tryz.results151 (RV.tmp rfl) (fun w' hs => ⟨by rw [hbad (fun h => h.2.1 q2)], hs.below⟩)
    repeat' (first | refine rn ?_ | (refine zb ?_; intro _ _) | (refine za ?_; intro _ _) | (refine zs ?_; intro _ _))
    refine TL_callV rfl rfl rfl (fun w h => c86 x.2 _ _ w) ?_
    by_cases q3 : In x.2 1 1000
    rotate_left
    · rw [decide_eq_false q3]
      repeat' (first | refine rn ?_ | (refine zb ?_; intro _ _) | (refine za ?_; intro _ _) | (refine zs ?_; intro _ _))
      exact TQ_ret1 Tryz.results151 (RV.tmp rfl) (fun w' hs => ⟨by rw [hbad (fun h => q3 h.2.2)], hs.below⟩)
    rw [decide_eq_true q3]
    repeat' (first | refine rn ?_ | (refine zb ?_; intro _ _) | (refine za ?_; intro _ _) | (refine zs ?_; intro _ _))
    refine TQ_round (k + 1, x.1) ⟨hlt, ?_⟩ (by dsimp only; omega) sb (fun w h => h.sub su)
    rw [hc]
    simp only [heirsB, decide_eq_true (show In x.1 (wr (now + 1)) 9999 ∧ x.1 ≠ fr ∧ In x.2 1 1000 from ⟨q1, q2, q3⟩), Bool.true_and]
  · have hkl : k = l.length := by omega
    subst hkl
    rw [List.drop_length] at hc
    repeat' (first | refine rn ?_ | (refine zb ?_; intro _ _) | (refine za ?_; intro _ _) | (refine zs ?_; intro _ _))
    refine TL_callV rfl rfl rfl (fun w h => c86 (l.length : Int) _ _ w) ?_
    repeat' (first | refine rn ?_ | (refine zb ?_; intro _ _) | (refine za ?_; intro _ _) | (refine zs ?_; intro _ _))
    exact TQ_ret1 Tryz.results151 (RV.tmp rfl) (fun w' hs => ⟨by unfold inhB; rw [hc]; simp only [heirsB, Bool.true_and], hs.below⟩)
end Go.Proofs.YtkpkebpofpcmaaaGreatDoor
