/- Walks: whether clocks and nights are great; choices. -/
import Derived.Test.YtkpkebpofpcmaaaGreatDoorH10
namespace Go.Proofs.YtkpkebpofpcmaaaGreatDoor
open Go Go.Eng Go.RowKit Go.Proofs
set_option maxHeartbeats 2000000
set_option maxRecDepth 10000
attribute [local irreducible] TL TC TQ

def greatC (k : Ck) : Prop := 30 < k.marks.length ∨ 20 < k.stars.length
instance (k : Ck) : Decidable (greatC k) := inferInstanceAs (Decidable (_ ∨ _))
theorem c8 (k : Ck) (w : World) : Calls Tryz.prog 8 #[.agg (encCk k).toArray] w (RetV w (.bool (decide (greatC k)))) := by
  refine enter (args := [.agg (encCk k).toArray]) Tryz.func8 rfl Tryz.ntmps8 rfl (SH.refl _) ?_
  repeat' (first | refine rn ?_ | (refine zb ?_; intro _ _) | (refine za ?_; intro _ _) | (refine zs ?_; intro _ _))
  refine TL_gsplit_dec rfl rfl (fun g1 => ?_) (fun g1 => ?_)
  · repeat' (first | refine rn ?_ | (refine zb ?_; intro _ _) | (refine za ?_; intro _ _) | (refine zs ?_; intro _ _))
    exact TQ_ret1 Tryz.results8 (RV.tmp rfl) (fun w' hs => RetV.yes (.inl (by omega)) hs.below)
  · repeat' (first | refine rn ?_ | (refine zb ?_; intro _ _) | (refine za ?_; intro _ _) | (refine zs ?_; intro _ _))
    refine TQ_ret1 Tryz.results8 (RV.tmp rfl) (fun w' hs => ⟨?_, hs.below⟩)
    have : (20 < (k.stars.length : Int)) ↔ greatC k := by unfold greatC; omega
    rw [decide_eq_decide.2 this]
def greatN (l : List Cg) : Prop := 30 < l.length ∨ ∃ c ∈ l, 16 < c.told.length
instance (l : List Cg) : Decidable (greatN l) := inferInstanceAs (Decidable (_ ∨ _))
def pickR (s : Sp) (n : Int) : Int := s.1 + n % (s.2 - s.1 + 1)
theorem u32_wrap {n : Int} (h : 0 ≤ n ∧ n ≤ 4294967295) : IntKind.i64.wrap n = n := wrap_i64_of (by omega)
theorem c26 (s : Sp) (n : Int) (hs1 : -1000000 ≤ s.1 ∧ s.1 ≤ s.2 ∧ s.2 ≤ 1000000) (hn : 0 ≤ n ∧ n ≤ 4294967295) (w : World) : Calls Tryz.prog 26 #[.agg (encSp s).toArray, .int .u32 n] w (RetV w (.int .i64 (pickR s n))) := by
  have hw := u32_wrap hn
  have h1 : 0 ≤ n % (s.2 - s.1 + 1) := Int.emod_nonneg _ (by omega)
  have h2 : n % (s.2 - s.1 + 1) < s.2 - s.1 + 1 := Int.emod_lt_of_pos _ (by omega)
  refine enter (args := [.agg (encSp s).toArray, .int .u32 n]) Tryz.func26 rfl Tryz.ntmps26 rfl (SH.refl _) ?_
  repeat' (first | refine rn ?_ | (refine zb ?_; intro _ _) | (refine za ?_; intro _ _) | (refine zs ?_; intro _ _))
  apply TC_draw 12; kernel_rfl; exact Tryz.mixed
  · iterate 3 (refine' pv ?_; rotate_left)
    (refine' PG.val rfl rfl (by intro _X; refine TL_conv_same rfl rfl hw ?_; exact qe) ?_; rotate_left)
    iterate 6 (refine' pv ?_; rotate_left)
    (refine' PG.val rfl rfl (by intro _X; refine TL_rem_nn rfl rfl rfl (by omega) (by omega) ?_; exact qe) ?_; rotate_left)
    (refine' pv ?_; rotate_left)
    exact PG.nil
  change TL _ _ _ _ _ _ _ _ _ _ _
  repeat' (first | refine rn ?_ | (refine zb ?_; intro _ _) | (refine za ?_; intro _ _) | (refine zs ?_; intro _ _))
  exact TQ_ret1 Tryz.results26 (RV.tmp rfl) (fun w' hs => ⟨rfl, hs.below⟩)
theorem c30 (a b : Int) (w : World) : Calls Tryz.prog 30 #[.int .i64 a, .int .i64 b] w (RetV w (.agg (encSp (a, b)).toArray)) := by
  refine enter (args := [.int .i64 a, .int .i64 b]) Tryz.func30 rfl Tryz.ntmps30 rfl (SH.refl _) ?_
  repeat' (first | refine rn ?_ | (refine zb ?_; intro _ _) | (refine za ?_; intro _ _) | (refine zs ?_; intro _ _))
  exact TQ_ret1 Tryz.results30 (RV.celln rfl mm (by rfl)) (fun w' hs => ⟨rfl, hs.below⟩)
end Go.Proofs.YtkpkebpofpcmaaaGreatDoor
