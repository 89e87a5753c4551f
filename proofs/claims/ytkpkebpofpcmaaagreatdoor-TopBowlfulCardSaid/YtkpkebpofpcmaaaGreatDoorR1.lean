/- Walks: whether clocks and nights are great; choices. -/
import Derived.Test.YtkpkebpofpcmaaaGreatDoorH10
namespace Go.Proofs.YtkpkebpofpcmaaaGreatDoor
open Go Go.Eng Go.RowKit Go.Proofs
set_option maxHeartbeats 2000000
set_option maxRecDepth 10000
attribute [local irreducible] TL TC TQ

def greatC (k : Ck) : Prop := 30 < k.marks.length ∨ 20 < k.stars.length
instance (k : Ck) : Decidable (greatC k) := inferInstanceAs (Decidable (_ ∨ _))
theorem c8 (k : Ck) (w : World) : Calls Tryz.prog 8 #[.agg (encCk k).toArray] w (RetV w (.bool (decide (greatC k)))) := by
  refine enter (args := [.agg (encCk k).toArray]) Tryz.func8 rfl Tryz.ntmps8 rfl (SH.refl _) ?_
  repeat' (first | refine rn ?_ | (refine zb ?_; intro _ _) | (refine za ?_; intro _ _) | (refine zs ?_; intro _ _))
  refine TL_gsplit_dec rfl rfl (fun g1 => ?_) (fun g1 => ?_)
  · repeat' (first | refine rn ?_ | (refine zb ?_; intro _ _) | (refine za ?_; intro _ _) | (refine zs ?_; intro _ _))
    exact TQ_ret1 Tryz.results8 (RV.tmp rfl) (fun w' hs => RetV.yes (.inl (by omega)) hs.below)
  · repeat' (first | refine rn ?_ | (refine zb ?_; intro _ _) | (refine za ?_; intro _ _) | (refine zs ?_; intro _ _))
    refine TQ_ret1 Tryz.results8 (RV.tmp rfl) (fun w' hs => ⟨?_, hs.below⟩)
    have : (20 < (k.stars.length : Int)) ↔ greatC k := by unfold greatC; omega
    rw [decide_eq_decide.2 this]
def greatN (l : List Cg) : Prop := 30 < l.length ∨ ∃ c ∈ l, 16 < c.told.length
instance (l : List Cg) : Decidable (greatN l) := inferInstanceAs (Decidable (_ ∨ _))
theorem c9 (l : List Cg) (ao : Option Addr) (cc : Nat) (w : World) (hl : Sl w 3 encCg ao l) : Calls Tryz.prog 9 #[.slice ao l.length cc] w (RetV w (.bool (decide (greatN l)))) := by
  refine enter (args := [.slice ao l.length cc]) Tryz.func9 rfl Tryz.ntmps9 rfl (SH.refl _) ?_
  repeat' (first | refine rn ?_ | (refine zb ?_; intro _ _) | (refine za ?_; intro _ _) | (refine zs ?_; intro _ _))
  refine TC_cond_dec rfl (fun g1 => ?_) (fun g1 => ?_)
  · repeat' (first | refine rn ?_ | (refine zb ?_; intro _ _) | (refine za ?_; intro _ _) | (refine zs ?_; intro _ _))
    exact TQ_ret1 Tryz.results9 (RV.tmp rfl) (fun w' hs => RetV.yes (.inl (by omega)) hs.below)
  repeat' (first | refine rn ?_ | (refine zb ?_; intro _ _) | (refine za ?_; intro _ _) | (refine zs ?_; intro _ _))
  refine TC_loop (σ := Nat) (fun k => k ≤ l.length ∧ ∀ i c, i < k → l[i]? = some c → c.told.length ≤ 16) (fun k => [(0, .slice ao l.length cc), (3, .int .i64 k)]) (fun k => []) (fun k => l.length - k) 0 ⟨Nat.zero_le _, fun i c h => by omega⟩ sb (fun w h => h) (fun k hk => ?_)
  repeat' (first | refine rn ?_ | (refine zb ?_; intro _ _) | (refine za ?_; intro _ _) | (refine zs ?_; intro _ _))
  refine TC_cond_dec rfl (fun h1 => ?_) (fun h1 => ?_)
  · have hlt : k < l.length := by omega
    obtain ⟨x, hx⟩ : ∃ x, l[k]? = some x := ⟨_, List.getElem?_eq_getElem hlt⟩
    have hne : l ≠ [] := by intro h; rw [h] at hlt; simp at hlt
    repeat' (first | refine rn ?_ | (refine zb ?_; intro _ _) | (refine za ?_; intro _ _) | (refine zs ?_; intro _ _))
    refine TL_index k rfl rfl rfl (fun w h => h.sl hl) rfl hlt (Nat.le_refl _) ?_
    refine TL_fieldAddr_el rfl rfl (fun w h => h.sl hl) hne ?_
    refine TL_load_el1 (u := x) rfl rfl (fun w h => h.sl hl) hx rfl ?_
    repeat' (first | refine rn ?_ | (refine zb ?_; intro _ _) | (refine za ?_; intro _ _) | (refine zs ?_; intro _ _))
    refine TC_cond_dec rfl (fun h2 => ?_) (fun h2 => ?_)
    · repeat' (first | refine rn ?_ | (refine zb ?_; intro _ _) | (refine za ?_; intro _ _) | (refine zs ?_; intro _ _))
      exact TQ_ret1 Tryz.results9 (RV.tmp rfl) (fun w' hs => RetV.yes (.inr ⟨x, List.mem_of_getElem? hx, by omega⟩) hs.below)
    · repeat' (first | refine rn ?_ | (refine zb ?_; intro _ _) | (refine za ?_; intro _ _) | (refine zs ?_; intro _ _))
      refine TQ_round (k + 1) ⟨by omega, fun i y hi hy => ?_⟩ (by omega) sb (fun w h => h)
      rcases Nat.lt_or_ge i k with h | h
      · exact hk.2 i y h hy
      · have : i = k := by omega
        subst this; rw [hx] at hy; cases hy; omega
  · repeat' (first | refine rn ?_ | (refine zb ?_; intro _ _) | (refine za ?_; intro _ _) | (refine zs ?_; intro _ _))
    refine TQ_ret1 Tryz.results9 (RV.tmp rfl) (fun w' hs => RetV.no (fun h => ?_) hs.below)
    rcases h with h | ⟨c, hc, h⟩
    · omega
    · obtain ⟨i, hi⟩ := List.getElem?_of_mem hc
      have := hk.2 i c (by have := (List.getElem?_eq_some_iff.1 hi).1; omega) hi
      omega
theorem c91 (s : Sp) (lo hi : Int) (w : World) : Calls Tryz.prog 91 #[.agg (encSp s).toArray, .int .i64 lo, .int .i64 hi] w (RetV w (.bool (decide (Ord s lo hi)))) := by
  refine enter (args := [.agg (encSp s).toArray, .int .i64 lo, .int .i64 hi]) Tryz.func91 rfl Tryz.ntmps91 rfl (SH.refl _) ?_
  repeat' (first | refine rn ?_ | (refine zb ?_; intro _ _) | (refine za ?_; intro _ _) | (refine zs ?_; intro _ _))
  refine TL_gsplit_dec rfl rfl (fun g1 => ?_) (fun g1 => ?_)
  · repeat' (first | refine rn ?_ | (refine zb ?_; intro _ _) | (refine za ?_; intro _ _) | (refine zs ?_; intro _ _))
    refine TL_gsplit_dec rfl rfl (fun g2 => ?_) (fun g2 => ?_)
    · repeat' (first | refine rn ?_ | (refine zb ?_; intro _ _) | (refine za ?_; intro _ _) | (refine zs ?_; intro _ _))
      refine TQ_ret1 Tryz.results91 (RV.tmp rfl) (fun w' hs => ⟨?_, hs.below⟩)
      have : s.2 ≤ hi ↔ Ord s lo hi := by unfold Ord; omega
      rw [decide_eq_decide.2 this]
    · repeat' (first | refine rn ?_ | (refine zb ?_; intro _ _) | (refine za ?_; intro _ _) | (refine zs ?_; intro _ _))
      exact TQ_ret1 Tryz.results91 (RV.tmp rfl) (fun w' hs => RetV.no (fun h => g2 h.2.1) hs.below)
  · repeat' (first | refine rn ?_ | (refine zb ?_; intro _ _) | (refine za ?_; intro _ _) | (refine zs ?_; intro _ _))
    exact TQ_ret1 Tryz.results91 (RV.tmp rfl) (fun w' hs => RetV.no (fun h => g1 h.1) hs.below)
theorem c12 (l : List Int) (ao : Option Addr) (c : Nat) (i : Nat) (w : World) (hl : Sl w 1 encU ao l) : Calls Tryz.prog 12 #[.slice ao l.length c, .int .i64 i] w (RetV w (.int .u32 (l.getD i 0))) := by
  refine enter (args := [.slice ao l.length c, .int .i64 i]) Tryz.func12 rfl Tryz.ntmps12 rfl (SH.refl _) ?_
  repeat' (first | refine rn ?_ | (refine zb ?_; intro _ _) | (refine za ?_; intro _ _) | (refine zs ?_; intro _ _))
  refine TC_cond_dec rfl (fun g1 => ?_) (fun g1 => ?_)
  · have hlt : i < l.length := by omega
    obtain ⟨x, hx⟩ : ∃ x, l[i]? = some x := ⟨_, List.getElem?_eq_getElem hlt⟩
    repeat' (first | refine rn ?_ | (refine zb ?_; intro _ _) | (refine za ?_; intro _ _) | (refine zs ?_; intro _ _))
    refine TL_index i rfl rfl rfl (fun w h => h.sl hl) rfl hlt (Nat.le_refl _) ?_
    refine TL_load_el1 (u := x) rfl rfl (fun w h => h.sl hl) hx rfl ?_
    repeat' (first | refine rn ?_ | (refine zb ?_; intro _ _) | (refine za ?_; intro _ _) | (refine zs ?_; intro _ _))
    refine TQ_ret1 Tryz.results12 (RV.tmp rfl) (fun w' hs => ⟨?_, hs.below⟩)
    rw [List.getD_eq_getElem?_getD, hx]; rfl
  · repeat' (first | refine rn ?_ | (refine zb ?_; intro _ _) | (refine za ?_; intro _ _) | (refine zs ?_; intro _ _))
    refine TQ_ret1 Tryz.results12 (RV.tmp rfl) (fun w' hs => ⟨?_, hs.below⟩)
    rw [List.getD_eq_getElem?_getD, List.getElem?_eq_none (by omega)]; rfl
def pickR (s : Sp) (n : Int) : Int := s.1 + n % (s.2 - s.1 + 1)
theorem u32_wrap {n : Int} (h : 0 ≤ n ∧ n ≤ 4294967295) : IntKind.i64.wrap n = n := wrap_i64_of (by omega)
theorem c11 (s : Sp) (n : Int) (hs1 : -1000000 ≤ s.1 ∧ s.1 ≤ s.2 ∧ s.2 ≤ 1000000) (hn : 0 ≤ n ∧ n ≤ 4294967295) (w : World) : Calls Tryz.prog 11 #[.agg (encSp s).toArray, .int .u32 n] w (RetV w (.int .i64 (pickR s n))) := by
  have hw := u32_wrap hn
  have h1 : 0 ≤ n % (s.2 - s.1 + 1) := Int.emod_nonneg _ (by omega)
  have h2 : n % (s.2 - s.1 + 1) < s.2 - s.1 + 1 := Int.emod_lt_of_pos _ (by omega)
  refine enter (args := [.agg (encSp s).toArray, .int .u32 n]) Tryz.func11 rfl Tryz.ntmps11 rfl (SH.refl _) ?_
  repeat' (first | refine rn ?_ | (refine zb ?_; intro _ _) | (refine za ?_; intro _ _) | (refine zs ?_; intro _ _))
  apply TC_draw 12; kernel_rfl; exact Tryz.mixed
  · iterate 3 (refine' pv ?_; rotate_left)
    (refine' PG.val rfl rfl (by intro _X; refine TL_conv_same rfl rfl hw ?_; exact qe) ?_; rotate_left)
    iterate 6 (refine' pv ?_; rotate_left)
    (refine' PG.val rfl rfl (by intro _X; refine TL_rem_nn rfl rfl rfl (by omega) (by omega) ?_; exact qe) ?_; rotate_left)
    (refine' pv ?_; rotate_left)
    exact PG.nil
  change TL _ _ _ _ _ _ _ _ _ _ _
  repeat' (first | refine rn ?_ | (refine zb ?_; intro _ _) | (refine za ?_; intro _ _) | (refine zs ?_; intro _ _))
  exact TQ_ret1 Tryz.results11 (RV.tmp rfl) (fun w' hs => ⟨rfl, hs.below⟩)
theorem c26 (s : Sp) (n : Int) (hs1 : -1000000 ≤ s.1 ∧ s.1 ≤ s.2 ∧ s.2 ≤ 1000000) (hn : 0 ≤ n ∧ n ≤ 4294967295) (w : World) : Calls Tryz.prog 26 #[.agg (encSp s).toArray, .int .u32 n] w (RetV w (.int .i64 (pickR s n))) := by
  have hw := u32_wrap hn
  have h1 : 0 ≤ n % (s.2 - s.1 + 1) := Int.emod_nonneg _ (by omega)
  have h2 : n % (s.2 - s.1 + 1) < s.2 - s.1 + 1 := Int.emod_lt_of_pos _ (by omega)
  refine enter (args := [.agg (encSp s).toArray, .int .u32 n]) Tryz.func26 rfl Tryz.ntmps26 rfl (SH.refl _) ?_
  repeat' (first | refine rn ?_ | (refine zb ?_; intro _ _) | (refine za ?_; intro _ _) | (refine zs ?_; intro _ _))
  apply TC_draw 12; kernel_rfl; exact Tryz.mixed
  · iterate 3 (refine' pv ?_; rotate_left)
    (refine' PG.val rfl rfl (by intro _X; refine TL_conv_same rfl rfl hw ?_; exact qe) ?_; rotate_left)
    iterate 6 (refine' pv ?_; rotate_left)
    (refine' PG.val rfl rfl (by intro _X; refine TL_rem_nn rfl rfl rfl (by omega) (by omega) ?_; exact qe) ?_; rotate_left)
    (refine' pv ?_; rotate_left)
    exact PG.nil
  change TL _ _ _ _ _ _ _ _ _ _ _
  repeat' (first | refine rn ?_ | (refine zb ?_; intro _ _) | (refine za ?_; intro _ _) | (refine zs ?_; intro _ _))
  exact TQ_ret1 Tryz.results26 (RV.tmp rfl) (fun w' hs => ⟨rfl, hs.below⟩)
theorem c32 (a b : Int) (w : World) : Calls Tryz.prog 32 #[.int .i64 a, .int .i64 b] w (RetV w (.agg (encSp (a, b)).toArray)) := by
  refine enter (args := [.int .i64 a, .int .i64 b]) Tryz.func32 rfl Tryz.ntmps32 rfl (SH.refl _) ?_
  repeat' (first | refine rn ?_ | (refine zb ?_; intro _ _) | (refine za ?_; intro _ _) | (refine zs ?_; intro _ _))
  exact TQ_ret1 Tryz.results32 (RV.celln rfl mm (by rfl)) (fun w' hs => ⟨rfl, hs.below⟩)
theorem c30 (a b : Int) (w : World) : Calls Tryz.prog 30 #[.int .i64 a, .int .i64 b] w (RetV w (.agg (encSp (a, b)).toArray)) := by
  refine enter (args := [.int .i64 a, .int .i64 b]) Tryz.func30 rfl Tryz.ntmps30 rfl (SH.refl _) ?_
  repeat' (first | refine rn ?_ | (refine zb ?_; intro _ _) | (refine za ?_; intro _ _) | (refine zs ?_; intro _ _))
  exact TQ_ret1 Tryz.results30 (RV.celln rfl mm (by rfl)) (fun w' hs => ⟨rfl, hs.below⟩)
end Go.Proofs.YtkpkebpofpcmaaaGreatDoor
