/- Walks: Cut of the reference; the statement DateCuts. -/
import Derived.Test.YtccgplomnjpniaaE17
namespace Go.Proofs.Ytccgplomnjpniaa
open Go Go.Eng Go.RowKit Go.Proofs
set_option maxHeartbeats 1000000
set_option maxRecDepth 10000
attribute [local irreducible] TL TC TQ

theorem c24 (f : Ft) (b : Bn) (ao : Option Addr) (c : Nat) (l : List Int) (lo : Option Addr) (lc : Nat) (hl : b.ripe.length ≤ 1000000) (hl2 : l.length ≤ 1000000) (w : World) (ha : Sl w 2 encSp ao b.ripe) (hal : Sl w 1 encI lo l) :
    Calls Try.prog 24 #[.agg (encFt f).toArray, .agg (encBn b ao c).toArray, .slice lo l.length lc] w (RetV w (.tuple #[.agg (encYd (cutF f b l).1).toArray, .int .i64 (cutF f b l).2])) := by
  refine enter (args := [.agg (encFt f).toArray, .agg (encBn b ao c).toArray, .slice lo l.length lc]) Try.func24 rfl Try.ntmps24 rfl (SH.refl _) ?_
  repeat' (first | refine rn ?_ | (apply TL_box; exact rfl; exact rfl; exact rfl; intro _ _) | (apply TL_alloc; exact rfl; intro _ _) | (apply TL_buildSlice; exact rfl; exact rfl; exact rfl; exact rfl; exact rfl; intro _ _))
  refine TL_callV rfl rfl rfl (fun w h => c26 f b ao c hl w (h.sl ha)) ?_
  repeat' (first | refine rn ?_ | (apply TL_box; exact rfl; exact rfl; exact rfl; intro _ _) | (apply TL_alloc; exact rfl; intro _ _) | (apply TL_buildSlice; exact rfl; exact rfl; exact rfl; exact rfl; exact rfl; intro _ _))
  refine TC_cond_dec rfl (fun g1 => ?_) (fun g1 => ?_)
  · have e : cutF f b l = (zeroYd, checkR f b) := by unfold cutF; rw [if_pos g1]
    rw [e]
    repeat' (first | refine rn ?_ | (apply TL_box; exact rfl; exact rfl; exact rfl; intro _ _) | (apply TL_alloc; exact rfl; intro _ _) | (apply TL_buildSlice; exact rfl; exact rfl; exact rfl; exact rfl; exact rfl; intro _ _))
    exact TQ_ret2 Try.results24 (RV.celln rfl mm (by rfl)) (RV.tmp rfl) (fun w' hs => ⟨rfl, hs.below⟩)
  obtain ⟨hf, hb⟩ := checkR_ok (Classical.not_not.1 g1)
  repeat' (first | refine rn ?_ | (apply TL_box; exact rfl; exact rfl; exact rfl; intro _ _) | (apply TL_alloc; exact rfl; intro _ _) | (apply TL_buildSlice; exact rfl; exact rfl; exact rfl; exact rfl; exact rfl; intro _ _))
  refine TL_callV rfl rfl rfl (fun w h => c41 b ao c l lo lc hl hl2 w (h.sl hal)) ?_
  repeat' (first | refine rn ?_ | (apply TL_box; exact rfl; exact rfl; exact rfl; intro _ _) | (apply TL_alloc; exact rfl; intro _ _) | (apply TL_buildSlice; exact rfl; exact rfl; exact rfl; exact rfl; exact rfl; intro _ _))
  refine TC_cond rfl (fun g2 => ?_) (fun g2 => ?_)
  · have hc : ¬ cutsB b.ripe.length 0 l = true := by simpa using g2
    have e : cutF f b l = (zeroYd, 82) := by unfold cutF; rw [if_neg g1, if_neg hc]
    rw [e]
    repeat' (first | refine rn ?_ | (apply TL_box; exact rfl; exact rfl; exact rfl; intro _ _) | (apply TL_alloc; exact rfl; intro _ _) | (apply TL_buildSlice; exact rfl; exact rfl; exact rfl; exact rfl; exact rfl; intro _ _))
    exact TQ_ret2 Try.results24 (RV.celln rfl mm (by rfl)) (RV.tmp rfl) (fun w' hs => ⟨rfl, hs.below⟩)
  · have hc : cutsB b.ripe.length 0 l = true := by simpa using g2
    have e : cutF f b l = (cutR f b l, 0) := by unfold cutF; rw [if_neg g1, if_pos hc]
    rw [e]
    repeat' (first | refine rn ?_ | (apply TL_box; exact rfl; exact rfl; exact rfl; intro _ _) | (apply TL_alloc; exact rfl; intro _ _) | (apply TL_buildSlice; exact rfl; exact rfl; exact rfl; exact rfl; exact rfl; intro _ _))
    refine TL_callV rfl rfl rfl (fun w h => c61 f b ao c l lo lc hf hb (cutsB_ok hl2 hc) w (h.sl ha) (h.sl hal)) ?_
    repeat' (first | refine rn ?_ | (apply TL_box; exact rfl; exact rfl; exact rfl; intro _ _) | (apply TL_alloc; exact rfl; intro _ _) | (apply TL_buildSlice; exact rfl; exact rfl; exact rfl; exact rfl; exact rfl; intro _ _))
    exact TQ_ret2 Try.results24 (RV.celln rfl mm (by rfl)) (RV.tmp rfl) (fun w' hs => ⟨rfl, hs.below⟩)

theorem c4 (f : Ft) (b : Bn) (ao : Option Addr) (c : Nat) (d : Int) (l : List Int) (lo : Option Addr) (lc : Nat) (hl : b.ripe.length ≤ 9223372036854775807) (hl2 : l.length ≤ 9223372036854775807) (w : World) (ha : Sl w 2 encSp ao b.ripe) (hal : Sl w 1 encI lo l) :
    Calls Try.prog 4 #[.agg (encFt f).toArray, .agg (encBn b ao c).toArray, .int .i64 d, .slice lo l.length lc] w (RetV w (.bool true)) := by
  refine enter (args := [.agg (encFt f).toArray, .agg (encBn b ao c).toArray, .int .i64 d, .slice lo l.length lc]) Try.func4 rfl Try.ntmps4 rfl (SH.refl _) ?_
  repeat' (first | refine rn ?_ | (apply TL_box; exact rfl; exact rfl; exact rfl; intro _ _) | (apply TL_alloc; exact rfl; intro _ _) | (apply TL_buildSlice; exact rfl; exact rfl; exact rfl; exact rfl; exact rfl; intro _ _))
  refine TL_gsplit_dec rfl rfl (fun h1 => ?_) (fun h1 => ?_)
  · repeat' (first | refine rn ?_ | (apply TL_box; exact rfl; exact rfl; exact rfl; intro _ _) | (apply TL_alloc; exact rfl; intro _ _) | (apply TL_buildSlice; exact rfl; exact rfl; exact rfl; exact rfl; exact rfl; intro _ _))
    exact TQ_ret1 Try.results4 (RV.tmp rfl) (fun w' hs => ⟨rfl, hs.below⟩)
  repeat' (first | refine rn ?_ | (apply TL_box; exact rfl; exact rfl; exact rfl; intro _ _) | (apply TL_alloc; exact rfl; intro _ _) | (apply TL_buildSlice; exact rfl; exact rfl; exact rfl; exact rfl; exact rfl; intro _ _))
  refine TC_cond_dec rfl (fun h2 => ?_) (fun h2 => ?_)
  · repeat' (first | refine rn ?_ | (apply TL_box; exact rfl; exact rfl; exact rfl; intro _ _) | (apply TL_alloc; exact rfl; intro _ _) | (apply TL_buildSlice; exact rfl; exact rfl; exact rfl; exact rfl; exact rfl; intro _ _))
    exact TQ_ret1 Try.results4 (RV.tmp rfl) (fun w' hs => ⟨rfl, hs.below⟩)
  have hlen : b.ripe.length ≤ 20 := by omega
  have hlen2 : l.length ≤ 20 := by omega
  have c28' := c28 l l
  repeat' (first | refine rn ?_ | (apply TL_box; exact rfl; exact rfl; exact rfl; intro _ _) | (apply TL_alloc; exact rfl; intro _ _) | (apply TL_buildSlice; exact rfl; exact rfl; exact rfl; exact rfl; exact rfl; intro _ _))
  refine TL_callN rfl rfl rfl (fun w h => c20 b ao c (by omega) w (h.sl ha)) ?_
  rintro ⟨so, sc, ob⟩ hrow
  replace hrow : Row 23 2 encSp so sc ob b.ripe := hrow
  dsimp only
  repeat' (first | refine rn ?_ | (apply TL_box; exact rfl; exact rfl; exact rfl; intro _ _) | (apply TL_alloc; exact rfl; intro _ _) | (apply TL_buildSlice; exact rfl; exact rfl; exact rfl; exact rfl; exact rfl; intro _ _))
  rename_i b32 _
  refine TL_append (l := ([] : List Int)) (l2 := l) (enc := encI) (T := 3) (ob := [(b32, .cells [] 3)]) (G := _) rfl (by rfl) rfl rfl rfl rfl rfl ⟨fun x hx => (by cases hx), .inr ⟨b32, [], rfl, rfl, by simp, by simp [maxLen], by simp⟩⟩ (List.Perm.refl _) (fun w h => h.sl hal) (fun u hu => rfl) (by simp only [List.length_nil]; omega) (by simp only [List.length_nil, maxLen]; omega) (fun so2 sc2 ob2 hrow2 => ?_)
  rw [List.nil_append] at hrow2 ⊢
  repeat' (first | refine rn ?_ | (apply TL_box; exact rfl; exact rfl; exact rfl; intro _ _) | (apply TL_alloc; exact rfl; intro _ _) | (apply TL_buildSlice; exact rfl; exact rfl; exact rfl; exact rfl; exact rfl; intro _ _))
  refine TL_callV rfl rfl rfl (fun w h => c21 f d w) ?_
  repeat' (first | refine rn ?_ | (apply TL_box; exact rfl; exact rfl; exact rfl; intro _ _) | (apply TL_alloc; exact rfl; intro _ _) | (apply TL_buildSlice; exact rfl; exact rfl; exact rfl; exact rfl; exact rfl; intro _ _))
  refine TL_callV rfl rfl rfl (fun w h => c22 f d w) ?_
  repeat' (first | refine rn ?_ | (apply TL_box; exact rfl; exact rfl; exact rfl; intro _ _) | (apply TL_alloc; exact rfl; intro _ _) | (apply TL_buildSlice; exact rfl; exact rfl; exact rfl; exact rfl; exact rfl; intro _ _))
  refine TL_callV rfl rfl rfl (fun w h => c23 f b so sc l so2 sc2 (by omega) (by omega) w (hrow.sl h (fun p hp => (by repeat (first | exact List.mem_append_left _ hp | apply List.mem_append_right | apply List.mem_cons_of_mem)))) (hrow2.sl h (fun p hp => (by repeat (first | exact List.mem_append_left _ hp | apply List.mem_append_right | apply List.mem_cons_of_mem))))) ?_
  repeat' (first | refine rn ?_ | (apply TL_box; exact rfl; exact rfl; exact rfl; intro _ _) | (apply TL_alloc; exact rfl; intro _ _) | (apply TL_buildSlice; exact rfl; exact rfl; exact rfl; exact rfl; exact rfl; intro _ _))
  refine TL_callV rfl rfl rfl (fun w h => c24 f b ao c l lo lc (by omega) (by omega) w (h.sl ha) (h.sl hal)) ?_
  repeat' (first | refine rn ?_ | (apply TL_box; exact rfl; exact rfl; exact rfl; intro _ _) | (apply TL_alloc; exact rfl; intro _ _) | (apply TL_buildSlice; exact rfl; exact rfl; exact rfl; exact rfl; exact rfl; intro _ _))
  have c28' := fun w h1 h2 => c28 l l so2 lo sc2 lc (by omega) w h1 h2
  rw [decide_eq_true rfl] at c28'
  apply TC_draw 42; kernel_rfl; exact Try.mixed
  · iterate 2 (refine' pv ?_; rotate_left)
    (refine' PG.val rfl rfl (by intro _X; refine TL_callV rfl rfl rfl (fun w h => c25 f b so sc (by omega) w (hrow.sl h (fun p hp => (by repeat (first | exact List.mem_append_left _ hp | apply List.mem_append_right | apply List.mem_cons_of_mem))))) ?_; exact qe) ?_; rotate_left)
    iterate 2 (refine' pv ?_; rotate_left)
    (refine' PG.val rfl rfl (by intro _X; refine TL_callV rfl rfl rfl (fun w h => c26 f b ao c (by omega) w (h.sl ha)) ?_; exact qe) ?_; rotate_left)
    (refine' PG.val rfl rfl (by intro _X; refine TL_eql_same rfl rfl rfl ?_; exact qe) ?_; rotate_left)
    (refine' pv ?_; rotate_left)
    iterate 2 (refine' pg ?_; rotate_left)
    (refine' PG.val rfl rfl (by intro _X; (refine TL_guard_yes rfl rfl rfl ?_); refine TL_eql_same rfl rfl rfl ?_; exact qe) ?_; rotate_left)
    iterate 2 (refine' pv ?_; rotate_left)
    iterate 2 (refine' pg ?_; rotate_left)
    (refine' PG.val rfl rfl (by intro _X; (refine TL_guard_yes rfl rfl rfl ?_); refine TL_eql_same rfl rfl rfl ?_; exact qe) ?_; rotate_left)
    iterate 2 (refine' pv ?_; rotate_left)
    iterate 2 (refine' pg ?_; rotate_left)
    (refine' PG.val rfl rfl (by intro _X; (refine TL_guard_yes rfl rfl rfl ?_); refine TL_eql_same rfl rfl rfl ?_; exact qe) ?_; rotate_left)
    iterate 2 (refine' pv ?_; rotate_left)
    iterate 2 (refine' pg ?_; rotate_left)
    (refine' PG.val rfl rfl (by intro _X; (refine TL_guard_yes rfl rfl rfl ?_); refine TL_eqlS_same rfl rfl rfl rfl rfl rfl rfl ?_; exact qe) ?_; rotate_left)
    iterate 2 (refine' pv ?_; rotate_left)
    iterate 2 (refine' pg ?_; rotate_left)
    (refine' PG.val rfl rfl (by intro _X; (refine TL_guard_yes rfl rfl rfl ?_); refine TL_eql_same rfl rfl rfl ?_; exact qe) ?_; rotate_left)
    iterate 2 (refine' pv ?_; rotate_left)
    iterate 2 (refine' pg ?_; rotate_left)
    (refine' PG.val rfl rfl (by intro _X; (refine TL_guard_yes rfl rfl rfl ?_); refine TL_callV rfl rfl rfl (fun w h => c27 b so ao sc c (by omega) w (hrow.sl h (fun p hp => (by repeat (first | exact List.mem_append_left _ hp | apply List.mem_append_right | apply List.mem_cons_of_mem)))) (h.sl ha)) ?_; exact qe) ?_; rotate_left)
    iterate 2 (refine' pv ?_; rotate_left)
    iterate 2 (refine' pg ?_; rotate_left)
    (refine' PG.val rfl rfl (by intro _X; (refine TL_guard_yes rfl rfl rfl ?_); refine TL_callV rfl rfl rfl (fun w h => c28' w (hrow2.sl h (fun p hp => (by repeat (first | exact List.mem_append_left _ hp | apply List.mem_append_right | apply List.mem_cons_of_mem)))) (h.sl hal)) ?_; exact qe) ?_; rotate_left)
    (refine' pv ?_; rotate_left)
    exact PG.nil
  change TL _ _ _ _ _ _ _ _ _ _ _
  repeat' (first | refine rn ?_ | (apply TL_box; exact rfl; exact rfl; exact rfl; intro _ _) | (apply TL_alloc; exact rfl; intro _ _) | (apply TL_buildSlice; exact rfl; exact rfl; exact rfl; exact rfl; exact rfl; intro _ _))
  exact TQ_ret1 Try.results4 (RV.tmp rfl) (fun w' hs => ⟨rfl, hs.below⟩)
end Go.Proofs.Ytccgplomnjpniaa
