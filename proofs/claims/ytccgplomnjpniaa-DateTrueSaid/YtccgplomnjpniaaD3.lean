/- Walks: aflajref08.SameStates. -/
import Derived.Test.YtccgplomnjpniaaD0
namespace Go.Proofs.Ytccgplomnjpniaa
open Go Go.Eng Go.RowKit Go.Proofs
set_option maxHeartbeats 400000
attribute [local irreducible] TL TC TQ

theorem c19 (la lb : List St) (ao bo : Option Addr) (ca cb : Nat) (hla : la.length ≤ 9223372036854775807) (w : World) (ha : Sl w 4 encSt ao la) (hb : Sl w 4 encSt bo lb) :
    Calls Try.prog 19 #[.slice ao la.length ca, .slice bo lb.length cb] w (RetV w (.bool (decide (la = lb)))) := by
  refine enter (args := [.slice ao la.length ca, .slice bo lb.length cb]) Try.func19 rfl Try.ntmps19 rfl (SH.refl _) ?_
  repeat' (first | refine rn ?_ | (apply TL_box; exact rfl; exact rfl; exact rfl; intro _ _) | (apply TL_alloc; exact rfl; intro _ _) | (apply TL_buildSlice; exact rfl; exact rfl; exact rfl; exact rfl; exact rfl; intro _ _))
  refine TC_cond_dec rfl (fun h1 => ?_) (fun h1 => ?_)
  · repeat' (first | refine rn ?_ | (apply TL_box; exact rfl; exact rfl; exact rfl; intro _ _) | (apply TL_alloc; exact rfl; intro _ _) | (apply TL_buildSlice; exact rfl; exact rfl; exact rfl; exact rfl; exact rfl; intro _ _))
    refine TQ_ret1 Try.results19 (RV.tmp rfl) (fun w' hs => ⟨?_, hs.below⟩)
    have : la ≠ lb := fun e => h1 (by rw [e])
    simp [this]
  have hlen : la.length = lb.length := by omega
  repeat' (first | refine rn ?_ | (apply TL_box; exact rfl; exact rfl; exact rfl; intro _ _) | (apply TL_alloc; exact rfl; intro _ _) | (apply TL_buildSlice; exact rfl; exact rfl; exact rfl; exact rfl; exact rfl; intro _ _))
  refine TC_loop (σ := Nat) (fun k => k ≤ la.length ∧ ∀ i, i < k → la[i]? = lb[i]?) (fun k => [(0, .slice ao la.length ca), (1, .slice bo lb.length cb), (5, .int .i64 k)]) (fun k => []) (fun k => la.length - k) 0 ⟨Nat.zero_le _, fun i h => by omega⟩ sb (fun w h => h) (fun k hk => ?_)
  repeat' (first | refine rn ?_ | (apply TL_box; exact rfl; exact rfl; exact rfl; intro _ _) | (apply TL_alloc; exact rfl; intro _ _) | (apply TL_buildSlice; exact rfl; exact rfl; exact rfl; exact rfl; exact rfl; intro _ _))
  refine TC_cond_dec rfl (fun h1 => ?_) (fun h1 => ?_)
  · have hlt : k < la.length := by omega
    repeat' (first | refine rn ?_ | (apply TL_box; exact rfl; exact rfl; exact rfl; intro _ _) | (apply TL_alloc; exact rfl; intro _ _) | (apply TL_buildSlice; exact rfl; exact rfl; exact rfl; exact rfl; exact rfl; intro _ _))
    apply TC_draw 9; kernel_rfl; exact Try.mixed
    · iterate 2 (refine' pv ?_; rotate_left)
      (refine' PG.val rfl rfl (by intro _X; refine TL_index k rfl rfl rfl (fun w h => h.sl ha) rfl hlt (Nat.le_refl _) ?_; exact qe) ?_; rotate_left)
      (refine' PG.val rfl rfl (by intro _X; refine TL_load_eln (u := la[k]) rfl rfl (fun w h => h.sl ha) (by simp [hlt]) rfl ?_; exact qe) ?_; rotate_left)
      iterate 2 (refine' pv ?_; rotate_left)
      (refine' PG.val rfl rfl (by intro _X; refine TL_index k rfl rfl rfl (fun w h => h.sl hb) rfl (by omega) (Nat.le_refl _) ?_; exact qe) ?_; rotate_left)
      (refine' PG.val rfl rfl (by intro _X; refine TL_load_eln (u := lb[k]) rfl rfl (fun w h => h.sl hb) (by simp) rfl ?_; exact qe) ?_; rotate_left)
      (refine' pv ?_; rotate_left)
      exact PG.nil
    change TL _ _ _ _ _ _ _ _ _ _ _
    repeat' (first | refine rn ?_ | (apply TL_box; exact rfl; exact rfl; exact rfl; intro _ _) | (apply TL_alloc; exact rfl; intro _ _) | (apply TL_buildSlice; exact rfl; exact rfl; exact rfl; exact rfl; exact rfl; intro _ _))
    refine TC_cond_dec rfl (fun h2 => ?_) (fun h2 => ?_)
    · repeat' (first | refine rn ?_ | (apply TL_box; exact rfl; exact rfl; exact rfl; intro _ _) | (apply TL_alloc; exact rfl; intro _ _) | (apply TL_buildSlice; exact rfl; exact rfl; exact rfl; exact rfl; exact rfl; intro _ _))
      refine TQ_ret1 Try.results19 (RV.tmp rfl) (fun w' hs => ⟨?_, hs.below⟩)
      have : la ≠ lb := fun e => by
        subst e; exact h2 rfl
      simp [this]
    · repeat' (first | refine rn ?_ | (apply TL_box; exact rfl; exact rfl; exact rfl; intro _ _) | (apply TL_alloc; exact rfl; intro _ _) | (apply TL_buildSlice; exact rfl; exact rfl; exact rfl; exact rfl; exact rfl; intro _ _))
      refine TQ_round (k + 1) ⟨by omega, fun i hi => ?_⟩ (by omega) sb (fun w h => h.sub (by simp))
      rcases Nat.lt_or_ge i k with h | h
      · exact hk.2 i h
      · have : i = k := by omega
        subst this
        have h3 : la[i] = lb[i]'(by omega) := by
          simp only [ne_eq, Classical.not_not] at h2
          simp at h2
          exact Prod.ext (Prod.ext h2.1 h2.2.1) (Prod.ext h2.2.2.1 h2.2.2.2)
        simp [hlt, show i < lb.length by omega, h3]
  · have hkl : k = la.length := by omega
    subst hkl
    repeat' (first | refine rn ?_ | (apply TL_box; exact rfl; exact rfl; exact rfl; intro _ _) | (apply TL_alloc; exact rfl; intro _ _) | (apply TL_buildSlice; exact rfl; exact rfl; exact rfl; exact rfl; exact rfl; intro _ _))
    refine TQ_ret1 Try.results19 (RV.tmp rfl) (fun w' hs => ⟨?_, hs.below⟩)
    have : la = lb := List.ext_getElem? fun i => by
      rcases Nat.lt_or_ge i la.length with h | h
      · exact hk.2 i h
      · rw [List.getElem?_eq_none h, List.getElem?_eq_none (by omega)]
    simp [this]
end Go.Proofs.Ytccgplomnjpniaa
