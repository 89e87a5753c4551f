/- Walks: SameBunch, Bunch, Check of the reference. -/
import Derived.Test.YtccgplomnjpniaaE4
namespace Go.Proofs.Ytccgplomnjpniaa
open Go Go.Eng Go.RowKit Go.Proofs
set_option maxHeartbeats 1000000
set_option maxRecDepth 10000
attribute [local irreducible] TL TC TQ

/-- SameBunch of a bunch and its like: true. -/
theorem c27 (b : Bn) (ao bo : Option Addr) (ca cb : Nat) (hl : b.ripe.length ≤ 1000000) (w : World) (ha : Sl w 2 encSp ao b.ripe) (hb : Sl w 2 encSp bo b.ripe) :
    Calls Try.prog 27 #[.agg (encBn b ao ca).toArray, .agg (encBn b bo cb).toArray] w (RetV w (.bool true)) := by
  refine enter (args := [.agg (encBn b ao ca).toArray, .agg (encBn b bo cb).toArray]) Try.func27 rfl Try.ntmps27 rfl (SH.refl _) ?_
  repeat' (first | (refine TL_neq_same rfl rfl rfl ?_) | (refine TL_neqS_same rfl rfl rfl rfl rfl rfl rfl ?_) | (refine TL_neqB_same rfl Try.underlying4 rfl rfl ?_) | refine r1 ?_ | (apply TL_box; exact rfl; exact rfl; exact rfl; intro _ _) | (apply TL_alloc; exact rfl; intro _ _) | (apply TL_buildSlice; exact rfl; exact rfl; exact rfl; exact rfl; exact rfl; intro _ _))
  rename_i b2 _ b3 _
  refine TC_loop (σ := Nat) (fun k => k ≤ b.ripe.length) (fun k => [(2, .pointer (some ⟨b2, 0, none⟩)), (3, .pointer (some ⟨b3, 0, none⟩)), (5, .int .i64 k)]) (fun k => [(b3, .cells (encBn b bo cb) 46), (b2, .cells (encBn b ao ca) 46)]) (fun k => b.ripe.length - k) 0 (Nat.zero_le _) sb (fun w h => h) (fun k hk => ?_)
  repeat' (first | refine rn ?_ | (apply TL_box; exact rfl; exact rfl; exact rfl; intro _ _) | (apply TL_alloc; exact rfl; intro _ _) | (apply TL_buildSlice; exact rfl; exact rfl; exact rfl; exact rfl; exact rfl; intro _ _))
  refine TC_cond_dec rfl (fun h1 => ?_) (fun h1 => ?_)
  · have hlt : k < b.ripe.length := by omega
    obtain ⟨x, hx⟩ : ∃ x, b.ripe[k]? = some x := ⟨_, List.getElem?_eq_getElem hlt⟩
    repeat' (first | refine rn ?_ | (apply TL_box; exact rfl; exact rfl; exact rfl; intro _ _) | (apply TL_alloc; exact rfl; intro _ _) | (apply TL_buildSlice; exact rfl; exact rfl; exact rfl; exact rfl; exact rfl; intro _ _))
    apply TC_draw 11; kernel_rfl; exact Try.mixed
    · iterate 3 (refine' pv ?_; rotate_left)
      (refine' PG.val rfl rfl (by intro _X; refine TL_index k rfl rfl rfl (fun w h => h.sl ha) rfl hlt (Nat.le_refl _) ?_; exact qe) ?_; rotate_left)
      (refine' PG.val rfl rfl (by intro _X; refine TL_load_eln (u := x) rfl rfl (fun w h => h.sl ha) hx rfl ?_; exact qe) ?_; rotate_left)
      iterate 3 (refine' pv ?_; rotate_left)
      (refine' PG.val rfl rfl (by intro _X; refine TL_index k rfl rfl rfl (fun w h => h.sl hb) rfl hlt (Nat.le_refl _) ?_; exact qe) ?_; rotate_left)
      (refine' PG.val rfl rfl (by intro _X; refine TL_load_eln (u := x) rfl rfl (fun w h => h.sl hb) hx rfl ?_; exact qe) ?_; rotate_left)
      (refine' PG.val rfl rfl (by intro _X; refine TL_neqS_same rfl rfl rfl rfl rfl rfl rfl ?_; exact qe) ?_; rotate_left)
      exact PG.nil
    change TL _ _ _ _ _ _ _ _ _ _ _
    repeat' (first | refine rn ?_ | (apply TL_box; exact rfl; exact rfl; exact rfl; intro _ _) | (apply TL_alloc; exact rfl; intro _ _) | (apply TL_buildSlice; exact rfl; exact rfl; exact rfl; exact rfl; exact rfl; intro _ _))
    exact TQ_round (k + 1) hlt (by omega) sb (fun w h => h)
  · repeat' (first | refine rn ?_ | (apply TL_box; exact rfl; exact rfl; exact rfl; intro _ _) | (apply TL_alloc; exact rfl; intro _ _) | (apply TL_buildSlice; exact rfl; exact rfl; exact rfl; exact rfl; exact rfl; intro _ _))
    exact TQ_ret1 Try.results27 (RV.tmp rfl) (fun w' hs => ⟨rfl, hs.below⟩)
end Go.Proofs.Ytccgplomnjpniaa
