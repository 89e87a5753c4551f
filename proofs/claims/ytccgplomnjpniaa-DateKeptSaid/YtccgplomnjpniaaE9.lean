/- Walks: slices.BinarySearch, Min, Max; birds. -/
import Derived.Test.YtccgplomnjpniaaE8
namespace Go.Proofs.Ytccgplomnjpniaa
open Go Go.Eng Go.RowKit Go.Proofs
set_option maxHeartbeats 1000000
set_option maxRecDepth 10000
attribute [local irreducible] TL TC TQ

theorem c103 (x : Int) (w : World) : Calls Try.prog 103 #[.int .i64 x] w (RetV w (.bool false)) := by
  refine enter (args := [.int .i64 x]) Try.func103 rfl Try.ntmps103 rfl (SH.refl _) ?_
  repeat' (first | (refine TL_neq_same rfl rfl rfl ?_) | refine r1 ?_ | (apply TL_box; exact rfl; exact rfl; exact rfl; intro _ _) | (apply TL_alloc; exact rfl; intro _ _) | (apply TL_buildSlice; exact rfl; exact rfl; exact rfl; exact rfl; exact rfl; intro _ _))
  exact TQ_ret1 Try.results103 (RV.tmp rfl) (fun w' hs => ⟨rfl, hs.below⟩)
theorem c105 (x : Int) (w : World) : Calls Try.prog 105 #[.int .i64 x] w (RetV w (.bool false)) := by
  refine enter (args := [.int .i64 x]) Try.func105 rfl Try.ntmps105 rfl (SH.refl _) ?_
  repeat' (first | (refine TL_neq_same rfl rfl rfl ?_) | refine r1 ?_ | (apply TL_box; exact rfl; exact rfl; exact rfl; intro _ _) | (apply TL_alloc; exact rfl; intro _ _) | (apply TL_buildSlice; exact rfl; exact rfl; exact rfl; exact rfl; exact rfl; intro _ _))
  exact TQ_ret1 Try.results105 (RV.tmp rfl) (fun w' hs => ⟨rfl, hs.below⟩)
theorem c102 (x y : Int) (w : World) : Calls Try.prog 102 #[.int .i64 x, .int .i64 y] w (RetV w (.bool (decide (x < y)))) := by
  refine enter (args := [.int .i64 x, .int .i64 y]) Try.func102 rfl Try.ntmps102 rfl (SH.refl _) ?_
  repeat' (first | refine rn ?_ | (apply TL_box; exact rfl; exact rfl; exact rfl; intro _ _) | (apply TL_alloc; exact rfl; intro _ _) | (apply TL_buildSlice; exact rfl; exact rfl; exact rfl; exact rfl; exact rfl; intro _ _))
  refine TL_callV rfl rfl rfl (fun w _ => c105 _ w) ?_
  repeat' (first | (refine TL_guard_un rfl rfl rfl ?_) | refine r1 ?_ | (apply TL_box; exact rfl; exact rfl; exact rfl; intro _ _) | (apply TL_alloc; exact rfl; intro _ _) | (apply TL_buildSlice; exact rfl; exact rfl; exact rfl; exact rfl; exact rfl; intro _ _))
  exact TQ_ret1 Try.results102 (RV.tmp rfl) (fun w' hs => ⟨rfl, hs.below⟩)

theorem wrap_u64_nn {n : Int} (h : 0 ≤ n) (h2 : n ≤ 9223372036854775807) : IntKind.u64.wrap n = n := by rw [IntKind.wrap_u64]; omega
theorem wrap_i64_nn {n : Int} (h : 0 ≤ n) (h2 : n ≤ 9223372036854775807) : IntKind.i64.wrap n = n := wrap_i64_of (by omega)

/-- The first place of a number that is not below x. -/
theorem c98 (l : List Int) (ao : Option Addr) (c : Nat) (t : Int) (hl : l.length ≤ 1000000) (hs : ∀ (i j : Nat) x y, i ≤ j → l[i]? = some x → l[j]? = some y → x ≤ y) (w : World) (ha : Sl w 1 encI ao l) :
    Calls Try.prog 98 #[.slice ao l.length c, .int .i64 t] w (RetP w.heap.size w (fun q : Nat × Bool => .tuple #[.int .i64 q.1, .bool q.2]) (fun _ => []) (fun q => q.1 ≤ l.length ∧ (∀ (i : Nat) x, i < q.1 → l[i]? = some x → x < t) ∧ (∀ (i : Nat) x, q.1 ≤ i → l[i]? = some x → t ≤ x))) := by
  refine enter (args := [.slice ao l.length c, .int .i64 t]) Try.func98 rfl Try.ntmps98 rfl (SH.refl _) ?_
  repeat' (first | refine rn ?_ | (apply TL_box; exact rfl; exact rfl; exact rfl; intro _ _) | (apply TL_alloc; exact rfl; intro _ _) | (apply TL_buildSlice; exact rfl; exact rfl; exact rfl; exact rfl; exact rfl; intro _ _))
  refine TC_loop (σ := Nat × Nat) (fun q => q.1 ≤ q.2 ∧ q.2 ≤ l.length ∧ (∀ (i : Nat) x, i < q.1 → l[i]? = some x → x < t) ∧ (∀ (i : Nat) x, q.2 ≤ i → l[i]? = some x → t ≤ x)) (fun q => [(0, .slice ao l.length c), (1, .int .i64 t), (6, .int .i64 l.length), (7, .int .i64 q.1), (8, .int .i64 q.2)]) (fun _ => []) (fun q => q.2 - q.1) (0, l.length) ⟨Nat.zero_le _, Nat.le_refl _, fun i x h => by omega, fun i x h hx => ?_⟩ sb (fun w h => h) ?_
  · dsimp only at h
    rw [List.getElem?_eq_none h] at hx; cases hx
  rintro ⟨a, b⟩ ⟨h1, h2, h3, h4⟩
  dsimp only at h1 h2 h3 h4 ⊢
  repeat' (first | refine rn ?_ | (apply TL_box; exact rfl; exact rfl; exact rfl; intro _ _) | (apply TL_alloc; exact rfl; intro _ _) | (apply TL_buildSlice; exact rfl; exact rfl; exact rfl; exact rfl; exact rfl; intro _ _))
  refine TC_cond_dec rfl (fun h5 => ?_) (fun h5 => ?_)
  · have hm : ((a : Int) + (b : Int)) / 2 = (((a + b) / 2 : Nat) : Int) := by omega
    obtain ⟨x, hx⟩ : ∃ x, l[(a + b) / 2]? = some x := ⟨_, List.getElem?_eq_getElem (by omega)⟩
    repeat' (first | (refine TL_conv_same rfl rfl (wrap_u64_nn (by omega) (by omega)) ?_) | (refine TL_conv_same rfl rfl (wrap_i64_nn (by omega) (by omega)) ?_) | (refine TL_half rfl rfl rfl rfl (by omega) ?_) | refine r1 ?_ | (apply TL_box; exact rfl; exact rfl; exact rfl; intro _ _) | (apply TL_alloc; exact rfl; intro _ _) | (apply TL_buildSlice; exact rfl; exact rfl; exact rfl; exact rfl; exact rfl; intro _ _))
    refine TL_index ((a + b) / 2) rfl rfl rfl (fun w h => h.sl ha) hm (by omega) (Nat.le_refl _) ?_
    refine TL_load_el1 (u := x) rfl rfl (fun w h => h.sl ha) hx rfl ?_
    repeat' (first | refine rn ?_ | (apply TL_box; exact rfl; exact rfl; exact rfl; intro _ _) | (apply TL_alloc; exact rfl; intro _ _) | (apply TL_buildSlice; exact rfl; exact rfl; exact rfl; exact rfl; exact rfl; intro _ _))
    refine TL_callV rfl rfl rfl (fun w _ => c102 x t w) ?_
    repeat' (first | refine rn ?_ | (apply TL_box; exact rfl; exact rfl; exact rfl; intro _ _) | (apply TL_alloc; exact rfl; intro _ _) | (apply TL_buildSlice; exact rfl; exact rfl; exact rfl; exact rfl; exact rfl; intro _ _))
    refine TC_cond_dec rfl (fun h6 => ?_) (fun h6 => ?_)
    · repeat' (first | refine rn ?_ | (apply TL_box; exact rfl; exact rfl; exact rfl; intro _ _) | (apply TL_alloc; exact rfl; intro _ _) | (apply TL_buildSlice; exact rfl; exact rfl; exact rfl; exact rfl; exact rfl; intro _ _))
      rw [hm]
      refine TQ_round ((a + b) / 2 + 1, b) ⟨by dsimp only; omega, h2, fun i y hi hy => ?_, h4⟩ (by dsimp only; omega) sb (fun w h => h)
      dsimp only at hi
      have := hs i ((a + b) / 2) y x (by omega) hy hx
      omega
    · repeat' (first | refine rn ?_ | (apply TL_box; exact rfl; exact rfl; exact rfl; intro _ _) | (apply TL_alloc; exact rfl; intro _ _) | (apply TL_buildSlice; exact rfl; exact rfl; exact rfl; exact rfl; exact rfl; intro _ _))
      rw [hm]
      refine TQ_round (a, (a + b) / 2) ⟨by dsimp only; omega, by dsimp only; omega, h3, fun i y hi hy => ?_⟩ (by dsimp only; omega) sb (fun w h => h)
      dsimp only at hi
      have := hs ((a + b) / 2) i x y (by omega) hx hy
      omega
  · have hab : a = b := by omega
    subst hab
    have fin : ∀ (v : Bool) (w' : World), SH w.heap.size w w' [] → RetP w.heap.size w (fun q : Nat × Bool => .tuple #[.int .i64 q.1, .bool q.2]) (fun _ => []) (fun q => q.1 ≤ l.length ∧ (∀ (i : Nat) x, i < q.1 → l[i]? = some x → x < t) ∧ (∀ (i : Nat) x, q.1 ≤ i → l[i]? = some x → t ≤ x)) (.returned (.tuple #[.int .i64 a, .bool v])) w' :=
      fun v w' hs => ⟨(a, v), ⟨h2, h3, h4⟩, rfl, hs⟩
    by_cases h6 : a < l.length
    · obtain ⟨x, hx⟩ : ∃ x, l[a]? = some x := ⟨_, List.getElem?_eq_getElem h6⟩
      have h7 : (a : Int) < (l.length : Int) := by omega
      by_cases h8 : x = t
      · repeat' (first | (refine TL_lss_t rfl rfl rfl h7 ?_) | (refine TL_eql_t rfl rfl rfl h8 ?_) | refine r1 ?_ | (apply TL_box; exact rfl; exact rfl; exact rfl; intro _ _) | (apply TL_alloc; exact rfl; intro _ _) | (apply TL_buildSlice; exact rfl; exact rfl; exact rfl; exact rfl; exact rfl; intro _ _))
        refine TL_index a rfl rfl rfl (fun w h => h.sl ha) rfl h6 (Nat.le_refl _) ?_
        repeat' (first | refine rn ?_ | (apply TL_box; exact rfl; exact rfl; exact rfl; intro _ _) | (apply TL_alloc; exact rfl; intro _ _) | (apply TL_buildSlice; exact rfl; exact rfl; exact rfl; exact rfl; exact rfl; intro _ _))
        refine TL_load_el1 (u := x) rfl rfl (fun w h => h.sl ha) hx rfl ?_
        repeat' (first | (refine TL_eql_t rfl rfl rfl h8 ?_) | refine r1 ?_ | (apply TL_box; exact rfl; exact rfl; exact rfl; intro _ _) | (apply TL_alloc; exact rfl; intro _ _) | (apply TL_buildSlice; exact rfl; exact rfl; exact rfl; exact rfl; exact rfl; intro _ _))
        exact TQ_ret2 Try.results98 (RV.tmp rfl) (RV.tmp rfl) (fun w' hs => fin true w' hs)
      · repeat' (first | (refine TL_lss_t rfl rfl rfl h7 ?_) | (refine TL_eql_f rfl rfl rfl h8 ?_) | refine r1 ?_ | (apply TL_box; exact rfl; exact rfl; exact rfl; intro _ _) | (apply TL_alloc; exact rfl; intro _ _) | (apply TL_buildSlice; exact rfl; exact rfl; exact rfl; exact rfl; exact rfl; intro _ _))
        refine TL_index a rfl rfl rfl (fun w h => h.sl ha) rfl h6 (Nat.le_refl _) ?_
        repeat' (first | refine rn ?_ | (apply TL_box; exact rfl; exact rfl; exact rfl; intro _ _) | (apply TL_alloc; exact rfl; intro _ _) | (apply TL_buildSlice; exact rfl; exact rfl; exact rfl; exact rfl; exact rfl; intro _ _))
        refine TL_load_el1 (u := x) rfl rfl (fun w h => h.sl ha) hx rfl ?_
        repeat' (first | (refine TL_eql_f rfl rfl rfl h8 ?_) | refine r1 ?_ | (apply TL_box; exact rfl; exact rfl; exact rfl; intro _ _) | (apply TL_alloc; exact rfl; intro _ _) | (apply TL_buildSlice; exact rfl; exact rfl; exact rfl; exact rfl; exact rfl; intro _ _))
        refine TL_index a rfl rfl rfl (fun w h => h.sl ha) rfl h6 (Nat.le_refl _) ?_
        repeat' (first | refine rn ?_ | (apply TL_box; exact rfl; exact rfl; exact rfl; intro _ _) | (apply TL_alloc; exact rfl; intro _ _) | (apply TL_buildSlice; exact rfl; exact rfl; exact rfl; exact rfl; exact rfl; intro _ _))
        refine TL_load_el1 (u := x) rfl rfl (fun w h => h.sl ha) hx rfl ?_
        repeat' (first | refine rn ?_ | (apply TL_box; exact rfl; exact rfl; exact rfl; intro _ _) | (apply TL_alloc; exact rfl; intro _ _) | (apply TL_buildSlice; exact rfl; exact rfl; exact rfl; exact rfl; exact rfl; intro _ _))
        refine TL_callV rfl rfl rfl (fun w _ => c103 x w) ?_
        repeat' (first | refine rn ?_ | (apply TL_box; exact rfl; exact rfl; exact rfl; intro _ _) | (apply TL_alloc; exact rfl; intro _ _) | (apply TL_buildSlice; exact rfl; exact rfl; exact rfl; exact rfl; exact rfl; intro _ _))
        exact TQ_ret2 Try.results98 (RV.tmp rfl) (RV.tmp rfl) (fun w' hs => fin false w' hs)
    · have h7 : ¬ (a : Int) < (l.length : Int) := by omega
      repeat' (first | (refine TL_lss_f rfl rfl rfl h7 ?_) | refine r1 ?_ | (apply TL_box; exact rfl; exact rfl; exact rfl; intro _ _) | (apply TL_alloc; exact rfl; intro _ _) | (apply TL_buildSlice; exact rfl; exact rfl; exact rfl; exact rfl; exact rfl; intro _ _))
      exact TQ_ret2 Try.results98 (RV.tmp rfl) (RV.tmp rfl) (fun w' hs => fin false w' hs)
end Go.Proofs.Ytccgplomnjpniaa
