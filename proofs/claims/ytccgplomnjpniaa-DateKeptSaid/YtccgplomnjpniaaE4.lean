/- Walks: SameInts, Twin, SameBunch. -/
import Derived.Test.YtccgplomnjpniaaE3
namespace Go.Proofs.Ytccgplomnjpniaa
open Go Go.Eng Go.RowKit Go.Proofs
set_option maxHeartbeats 1000000
set_option maxRecDepth 10000
attribute [local irreducible] TL TC TQ

theorem c28 (la lb : List Int) (ao bo : Option Addr) (ca cb : Nat) (hla : la.length ≤ 9223372036854775807) (w : World) (ha : Sl w 1 encI ao la) (hb : Sl w 1 encI bo lb) :
    Calls Try.prog 28 #[.slice ao la.length ca, .slice bo lb.length cb] w (RetV w (.bool (decide (la = lb)))) := by
  refine enter (args := [.slice ao la.length ca, .slice bo lb.length cb]) Try.func28 rfl Try.ntmps28 rfl (SH.refl _) ?_
  repeat' (first | refine rn ?_ | (apply TL_box; exact rfl; exact rfl; exact rfl; intro _ _) | (apply TL_alloc; exact rfl; intro _ _) | (apply TL_buildSlice; exact rfl; exact rfl; exact rfl; exact rfl; exact rfl; intro _ _))
  refine TC_cond_dec rfl (fun h1 => ?_) (fun h1 => ?_)
  · repeat' (first | refine rn ?_ | (apply TL_box; exact rfl; exact rfl; exact rfl; intro _ _) | (apply TL_alloc; exact rfl; intro _ _) | (apply TL_buildSlice; exact rfl; exact rfl; exact rfl; exact rfl; exact rfl; intro _ _))
    exact TQ_ret1 Try.results28 (RV.tmp rfl) (fun w' hs => RetV.no (fun e => h1 (by rw [e])) hs.below)
  have hlen : la.length = lb.length := by omega
  repeat' (first | refine rn ?_ | (apply TL_box; exact rfl; exact rfl; exact rfl; intro _ _) | (apply TL_alloc; exact rfl; intro _ _) | (apply TL_buildSlice; exact rfl; exact rfl; exact rfl; exact rfl; exact rfl; intro _ _))
  refine TC_loop (σ := Nat) (fun k => k ≤ la.length ∧ ∀ i, i < k → la[i]? = lb[i]?) (fun k => [(0, .slice ao la.length ca), (1, .slice bo lb.length cb), (5, .int .i64 k)]) (fun k => []) (fun k => la.length - k) 0 ⟨Nat.zero_le _, fun i h => by omega⟩ sb (fun w h => h) (fun k hk => ?_)
  repeat' (first | refine rn ?_ | (apply TL_box; exact rfl; exact rfl; exact rfl; intro _ _) | (apply TL_alloc; exact rfl; intro _ _) | (apply TL_buildSlice; exact rfl; exact rfl; exact rfl; exact rfl; exact rfl; intro _ _))
  refine TC_cond_dec rfl (fun h1 => ?_) (fun h1 => ?_)
  · have hlt : k < la.length := by omega
    obtain ⟨x, hx⟩ : ∃ x, la[k]? = some x := ⟨_, List.getElem?_eq_getElem hlt⟩
    obtain ⟨y, hy⟩ : ∃ y, lb[k]? = some y := ⟨_, List.getElem?_eq_getElem (by omega)⟩
    repeat' (first | refine rn ?_ | (apply TL_box; exact rfl; exact rfl; exact rfl; intro _ _) | (apply TL_alloc; exact rfl; intro _ _) | (apply TL_buildSlice; exact rfl; exact rfl; exact rfl; exact rfl; exact rfl; intro _ _))
    apply TC_draw 9; kernel_rfl; exact Try.mixed
    · iterate 2 (refine' pv ?_; rotate_left)
      (refine' PG.val rfl rfl (by intro _X; refine TL_index k rfl rfl rfl (fun w h => h.sl ha) rfl hlt (Nat.le_refl _) ?_; exact qe) ?_; rotate_left)
      (refine' PG.val rfl rfl (by intro _X; refine TL_load_el1 (u := x) rfl rfl (fun w h => h.sl ha) hx rfl ?_; exact qe) ?_; rotate_left)
      iterate 2 (refine' pv ?_; rotate_left)
      (refine' PG.val rfl rfl (by intro _X; refine TL_index k rfl rfl rfl (fun w h => h.sl hb) rfl (by omega) (Nat.le_refl _) ?_; exact qe) ?_; rotate_left)
      (refine' PG.val rfl rfl (by intro _X; refine TL_load_el1 (u := y) rfl rfl (fun w h => h.sl hb) hy rfl ?_; exact qe) ?_; rotate_left)
      (refine' pv ?_; rotate_left)
      exact PG.nil
    change TL _ _ _ _ _ _ _ _ _ _ _
    repeat' (first | refine rn ?_ | (apply TL_box; exact rfl; exact rfl; exact rfl; intro _ _) | (apply TL_alloc; exact rfl; intro _ _) | (apply TL_buildSlice; exact rfl; exact rfl; exact rfl; exact rfl; exact rfl; intro _ _))
    refine TC_cond_dec rfl (fun h2 => ?_) (fun h2 => ?_)
    · repeat' (first | refine rn ?_ | (apply TL_box; exact rfl; exact rfl; exact rfl; intro _ _) | (apply TL_alloc; exact rfl; intro _ _) | (apply TL_buildSlice; exact rfl; exact rfl; exact rfl; exact rfl; exact rfl; intro _ _))
      exact TQ_ret1 Try.results28 (RV.tmp rfl) (fun w' hs => RetV.no (fun e => by subst e; rw [hx] at hy; cases hy; exact h2 rfl) hs.below)
    · repeat' (first | refine rn ?_ | (apply TL_box; exact rfl; exact rfl; exact rfl; intro _ _) | (apply TL_alloc; exact rfl; intro _ _) | (apply TL_buildSlice; exact rfl; exact rfl; exact rfl; exact rfl; exact rfl; intro _ _))
      refine TQ_round (k + 1) ⟨by omega, fun i hi => ?_⟩ (by omega) sb (fun w h => h.sub (by simp))
      rcases Nat.lt_or_ge i k with h | h
      · exact hk.2 i h
      · have : i = k := by omega
        subst this
        rw [hx, hy, Classical.not_not.1 h2]
  · have hkl : k = la.length := by omega
    subst hkl
    repeat' (first | refine rn ?_ | (apply TL_box; exact rfl; exact rfl; exact rfl; intro _ _) | (apply TL_alloc; exact rfl; intro _ _) | (apply TL_buildSlice; exact rfl; exact rfl; exact rfl; exact rfl; exact rfl; intro _ _))
    exact TQ_ret1 Try.results28 (RV.tmp rfl) (fun w' hs => RetV.yes (List.ext_getElem? fun i => by
      rcases Nat.lt_or_ge i la.length with h | h
      · exact hk.2 i h
      · rw [List.getElem?_eq_none h, List.getElem?_eq_none (by omega)]) hs.below)

/-- Twin: the days lie in new memory. -/
theorem c20 (b : Bn) (ao : Option Addr) (c : Nat) (hl : b.ripe.length ≤ 1000000) (w : World) (ha : Sl w 2 encSp ao b.ripe) :
    Calls Try.prog 20 #[.agg (encBn b ao c).toArray] w (RetP w.heap.size w (fun q : Option Addr × Nat × Hp => .agg (encBn b q.1 q.2.1).toArray) (fun q => q.2.2) (fun q => Row 23 2 encSp q.1 q.2.1 q.2.2 b.ripe)) := by
  refine enter (args := [.agg (encBn b ao c).toArray]) Try.func20 rfl Try.ntmps20 rfl (SH.refl _) ?_
  repeat' (first | refine rn ?_ | (apply TL_box; exact rfl; exact rfl; exact rfl; intro _ _) | (apply TL_alloc; exact rfl; intro _ _) | (apply TL_buildSlice; exact rfl; exact rfl; exact rfl; exact rfl; exact rfl; intro _ _))
  rename_i b1 _ b2 _ b3 _
  refine TL_append (l := ([] : List Sp)) (l2 := b.ripe) (enc := encSp) (T := 23) (ob := [(b3, .cells [] 23)]) (G := _) rfl (by rfl) rfl rfl rfl rfl rfl ⟨fun x hx => (by cases hx), .inr ⟨b3, [], rfl, rfl, by simp, by simp [maxLen], by simp⟩⟩ (List.Perm.refl _) (fun w h => h.sl ha) (fun u hu => rfl) (by simp only [List.length_nil]; omega) (by simp only [List.length_nil, maxLen]; omega) (fun so sc ob hrow => ?_)
  rw [List.nil_append] at hrow ⊢
  repeat' (first | refine rn ?_ | (apply TL_box; exact rfl; exact rfl; exact rfl; intro _ _) | (apply TL_alloc; exact rfl; intro _ _) | (apply TL_buildSlice; exact rfl; exact rfl; exact rfl; exact rfl; exact rfl; intro _ _))
  exact TQ_ret1 Try.results20 (RV.celln rfl mm (by rfl)) (fun w' hs => ⟨(so, sc, ob), hrow, rfl, hs.sub (List.sublist_append_left _ _)⟩)
end Go.Proofs.Ytccgplomnjpniaa
