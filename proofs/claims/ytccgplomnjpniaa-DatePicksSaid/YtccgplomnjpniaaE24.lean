/- The walk of the statement DatePicks. -/
import Derived.Test.YtccgplomnjpniaaE23
import Derived.Test.YtccgplomnjpniaaE5
namespace Go.Proofs.Ytccgplomnjpniaa
open Go Go.Eng Go.RowKit Go.Proofs
set_option maxHeartbeats 1000000
set_option maxRecDepth 10000
attribute [local irreducible] TL TC TQ

theorem bestR_len (f : Ft) (b : Bn) (most : Int) : (bestR f b most).1.length ≤ 1000000 := by
  unfold bestR
  split
  · simp
  · split
    · simp
    · rename_i g1 g2
      obtain ⟨hf, hb⟩ := checkR_ok (Classical.not_not.1 g1)
      have hn : b.ripe.length ≤ 12 := by have := hb.1; simp only [In] at this; omega
      have := (Pick.up1_best (W := worthR f b) (worthR_nonneg hf hb) (worthR_nil f b) (Pick.allE b.ripe.length most.toNat) (Pick.allE_pairwise _ _)).here
      dsimp only
      rcases this with h | h
      · have := inc_len ((Pick.mem_allE _).1 h).1; omega
      · rw [h]; simp
theorem c5 (f : Ft) (b : Bn) (ao : Option Addr) (c : Nat) (most : Int) (hl : b.ripe.length ≤ 9223372036854775807) (w : World) (ha : Sl w 2 encSp ao b.ripe) :
    Calls Try.prog 5 #[.agg (encFt f).toArray, .agg (encBn b ao c).toArray, .int .i64 most] w (RetV w (.bool true)) := by
  refine enter (args := [.agg (encFt f).toArray, .agg (encBn b ao c).toArray, .int .i64 most]) Try.func5 rfl Try.ntmps5 rfl (SH.refl _) ?_
  repeat' (first | refine rn ?_ | (apply TL_box; exact rfl; exact rfl; exact rfl; intro _ _) | (apply TL_alloc; exact rfl; intro _ _) | (apply TL_buildSlice; exact rfl; exact rfl; exact rfl; exact rfl; exact rfl; intro _ _))
  refine TC_cond_dec rfl (fun h1 => ?_) (fun h1 => ?_)
  · repeat' (first | refine rn ?_ | (apply TL_box; exact rfl; exact rfl; exact rfl; intro _ _) | (apply TL_alloc; exact rfl; intro _ _) | (apply TL_buildSlice; exact rfl; exact rfl; exact rfl; exact rfl; exact rfl; intro _ _))
    exact TQ_ret1 Try.results5 (RV.tmp rfl) (fun w' hs => ⟨rfl, hs.below⟩)
  have hlen : b.ripe.length ≤ 20 := by omega
  repeat' (first | refine rn ?_ | (apply TL_box; exact rfl; exact rfl; exact rfl; intro _ _) | (apply TL_alloc; exact rfl; intro _ _) | (apply TL_buildSlice; exact rfl; exact rfl; exact rfl; exact rfl; exact rfl; intro _ _))
  refine TL_callN rfl rfl rfl (fun w h => c20 b ao c (by omega) w (h.sl ha)) ?_
  rintro ⟨so, sc, ob⟩ hrow
  replace hrow : Row 23 2 encSp so sc ob b.ripe := hrow
  dsimp only
  repeat' (first | refine rn ?_ | (apply TL_box; exact rfl; exact rfl; exact rfl; intro _ _) | (apply TL_alloc; exact rfl; intro _ _) | (apply TL_buildSlice; exact rfl; exact rfl; exact rfl; exact rfl; exact rfl; intro _ _))
  refine TL_callN rfl rfl rfl (fun w h => c29 f b so sc most (by omega) w (hrow.sl h (fun p hp => (by repeat (first | exact List.mem_append_left _ hp | apply List.mem_append_right | apply List.mem_cons_of_mem))))) ?_
  rintro ⟨so1, sc1, ob1⟩ hrow1
  replace hrow1 : Row 3 1 encI so1 sc1 ob1 (bestR f b most).1 := hrow1
  dsimp only
  repeat' (first | refine rn ?_ | (apply TL_box; exact rfl; exact rfl; exact rfl; intro _ _) | (apply TL_alloc; exact rfl; intro _ _) | (apply TL_buildSlice; exact rfl; exact rfl; exact rfl; exact rfl; exact rfl; intro _ _))
  refine TL_callN rfl rfl rfl (fun w h => c30 f b ao c most (by omega) w (h.sl ha)) ?_
  rintro ⟨so2, sc2, ob2⟩ hrow2
  replace hrow2 : Row 3 1 encI so2 sc2 ob2 (bestR f b most).1 := hrow2
  dsimp only
  have hbl := bestR_len f b most
  have c28' := fun w h1 h2 => c28 (bestR f b most).1 (bestR f b most).1 so1 so2 sc1 sc2 (by omega) w h1 h2
  rw [decide_eq_true rfl] at c28'
  repeat' (first | refine rn ?_ | (apply TL_box; exact rfl; exact rfl; exact rfl; intro _ _) | (apply TL_alloc; exact rfl; intro _ _) | (apply TL_buildSlice; exact rfl; exact rfl; exact rfl; exact rfl; exact rfl; intro _ _))
  refine TL_callV rfl rfl rfl (fun w h => c28' w (hrow1.sl h (fun p hp => (by repeat (first | exact List.mem_append_left _ hp | apply List.mem_append_right | apply List.mem_cons_of_mem)))) (hrow2.sl h (fun p hp => (by repeat (first | exact List.mem_append_left _ hp | apply List.mem_append_right | apply List.mem_cons_of_mem))))) ?_
  repeat' (first | (refine TL_eql_same rfl rfl rfl ?_) | refine r1 ?_ | (apply TL_box; exact rfl; exact rfl; exact rfl; intro _ _) | (apply TL_alloc; exact rfl; intro _ _) | (apply TL_buildSlice; exact rfl; exact rfl; exact rfl; exact rfl; exact rfl; intro _ _))
  refine TL_callV rfl rfl rfl (fun w h => c27 b so ao sc c (by omega) w (hrow.sl h (fun p hp => (by repeat (first | exact List.mem_append_left _ hp | apply List.mem_append_right | apply List.mem_cons_of_mem)))) (h.sl ha)) ?_
  repeat' (first | refine rn ?_ | (apply TL_box; exact rfl; exact rfl; exact rfl; intro _ _) | (apply TL_alloc; exact rfl; intro _ _) | (apply TL_buildSlice; exact rfl; exact rfl; exact rfl; exact rfl; exact rfl; intro _ _))
  exact TQ_ret1 Try.results5 (RV.tmp rfl) (fun w' hs => ⟨rfl, hs.below⟩)
end Go.Proofs.Ytccgplomnjpniaa
