/- Walks: part, within. -/
import Derived.Test.YtccgplomnjpniaaE28
namespace Go.Proofs.Ytccgplomnjpniaa
open Go Go.Eng Go.RowKit Go.Proofs
set_option maxHeartbeats 4000000
set_option maxRecDepth 10000
attribute [local irreducible] TL TC TQ

def partR (s : Sp) (by_ : List U32) (i : Int) : Sp := (insideR s (chooseR by_ i), insideR (insideR s (chooseR by_ i), s.2) (chooseR by_ (i + 1)))
theorem part_rg {s : Sp} (hs : s.1 ≤ s.2) (l : List U32) (i : Int) : s.1 ≤ (partR s l i).1 ∧ (partR s l i).1 ≤ (partR s l i).2 ∧ (partR s l i).2 ≤ s.2 := by
  have h1 := inside_rg hs (choose_rg l i).1
  have h2 := inside_rg (s := (insideR s (chooseR l i), s.2)) h1.2 (choose_rg l (i + 1)).1
  exact ⟨h1.1, h2.1, h2.2⟩
theorem c42 (s : Sp) (l : List U32) (i : Int) (hi : 0 ≤ i ∧ i ≤ 1000000) (hs0 : 0 ≤ s.1) (hs : s.1 ≤ s.2) (hs2 : s.2 ≤ 1000000000) (ao : Option Addr) (c : Nat) (hl : l.length ≤ 9223372036854775807) (w : World) (ha : Sl w 1 encU ao l) :
    Calls Try.prog 42 #[.agg (encSp s).toArray, .slice ao l.length c, .int .i64 i] w (RetV w (.agg (encSp (partR s l i)).toArray)) := by
  have h1 := inside_rg hs (choose_rg l i).1
  have h2 := inside_rg (s := (insideR s (chooseR l i), s.2)) h1.2 (choose_rg l (i + 1)).1
  refine enter (args := [.agg (encSp s).toArray, .slice ao l.length c, .int .i64 i]) Try.func42 rfl Try.ntmps42 rfl (SH.refl _) ?_
  repeat' (first | refine rn ?_ | (apply TL_box; exact rfl; exact rfl; exact rfl; intro _ _) | (apply TL_alloc; exact rfl; intro _ _) | (apply TL_buildSlice; exact rfl; exact rfl; exact rfl; exact rfl; exact rfl; intro _ _))
  apply TC_draw 5; kernel_rfl; exact Try.mixed
  · iterate 3 (refine' pv ?_; rotate_left)
    (refine' PG.val rfl rfl (by intro _X; refine TL_callV rfl rfl rfl (fun w h => c38 l i hi.1 ao c hl w (h.sl ha)) ?_; exact qe) ?_; rotate_left)
    (refine' PG.val rfl rfl (by intro _X; refine TL_callV rfl rfl rfl (fun w _ => c37 s _ hs0 hs hs2 (choose_rg l i) w) ?_; exact qe) ?_; rotate_left)
    exact PG.nil
  change TL _ _ _ _ _ _ _ _ _ _ _
  repeat' (first | refine rn ?_ | (apply TL_box; exact rfl; exact rfl; exact rfl; intro _ _) | (apply TL_alloc; exact rfl; intro _ _) | (apply TL_buildSlice; exact rfl; exact rfl; exact rfl; exact rfl; exact rfl; intro _ _))
  refine TL_callV rfl rfl rfl (fun w _ => c34 (insideR s (chooseR l i)) s.2 w) ?_
  repeat' (first | refine rn ?_ | (apply TL_box; exact rfl; exact rfl; exact rfl; intro _ _) | (apply TL_alloc; exact rfl; intro _ _) | (apply TL_buildSlice; exact rfl; exact rfl; exact rfl; exact rfl; exact rfl; intro _ _))
  refine TL_callV rfl rfl rfl (fun w h => c38 l (i + 1) (by omega) ao c hl w (h.sl ha)) ?_
  refine TL_callV rfl rfl rfl (fun w _ => c37 (insideR s (chooseR l i), s.2) _ (by dsimp only; omega) h1.2 hs2 (choose_rg l (i + 1)) w) ?_
  refine TL_callV rfl rfl rfl (fun w _ => c34 (insideR s (chooseR l i)) (insideR (insideR s (chooseR l i), s.2) (chooseR l (i + 1))) w) ?_
  repeat' (first | refine rn ?_ | (apply TL_box; exact rfl; exact rfl; exact rfl; intro _ _) | (apply TL_alloc; exact rfl; intro _ _) | (apply TL_buildSlice; exact rfl; exact rfl; exact rfl; exact rfl; exact rfl; intro _ _))
  exact TQ_ret1 Try.results42 (RV.celln rfl mm (by rfl)) (fun w' hs => ⟨rfl, hs.below⟩)
theorem c43 (a b : Sp) (w : World) : Calls Try.prog 43 #[.agg (encSp a).toArray, .agg (encSp b).toArray] w (RetV w (.bool (decide (b.1 ≤ a.1 ∧ a.2 ≤ b.2)))) := by
  refine enter (args := [.agg (encSp a).toArray, .agg (encSp b).toArray]) Try.func43 rfl Try.ntmps43 rfl (SH.refl _) ?_
  by_cases h1 : b.1 ≤ a.1
  · by_cases h2 : a.2 ≤ b.2
    · repeat' (first | (refine TL_geq_t rfl rfl rfl h1 ?_) | (refine TL_leq_t rfl rfl rfl h2 ?_) | refine r1 ?_ | (apply TL_box; exact rfl; exact rfl; exact rfl; intro _ _) | (apply TL_alloc; exact rfl; intro _ _) | (apply TL_buildSlice; exact rfl; exact rfl; exact rfl; exact rfl; exact rfl; intro _ _))
      exact TQ_ret1 Try.results43 (RV.tmp rfl) (fun w' hs => RetV.yes ⟨h1, h2⟩ hs.below)
    · repeat' (first | (refine TL_geq_t rfl rfl rfl h1 ?_) | (refine TL_leq_f rfl rfl rfl h2 ?_) | refine r1 ?_ | (apply TL_box; exact rfl; exact rfl; exact rfl; intro _ _) | (apply TL_alloc; exact rfl; intro _ _) | (apply TL_buildSlice; exact rfl; exact rfl; exact rfl; exact rfl; exact rfl; intro _ _))
      exact TQ_ret1 Try.results43 (RV.tmp rfl) (fun w' hs => RetV.no (fun h => h2 h.2) hs.below)
  · repeat' (first | (refine TL_geq_f rfl rfl rfl h1 ?_) | refine r1 ?_ | (apply TL_box; exact rfl; exact rfl; exact rfl; intro _ _) | (apply TL_alloc; exact rfl; intro _ _) | (apply TL_buildSlice; exact rfl; exact rfl; exact rfl; exact rfl; exact rfl; intro _ _))
    exact TQ_ret1 Try.results43 (RV.tmp rfl) (fun w' hs => RetV.no (fun h => h1 h.1) hs.below)
end Go.Proofs.Ytccgplomnjpniaa
