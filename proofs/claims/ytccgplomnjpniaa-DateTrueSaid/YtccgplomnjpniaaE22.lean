/- Walks: Best, of the program. -/
import Derived.Test.YtccgplomnjpniaaE21
import Derived.Test.YtccgplomnjpniaaE17
namespace Go.Proofs.Ytccgplomnjpniaa
open Go Go.Eng Go.RowKit Go.Proofs
set_option maxHeartbeats 1000000
set_option maxRecDepth 10000
attribute [local irreducible] TL TC TQ

def bestR (f : Ft) (b : Bn) (most : Int) : List Int × Int × Int :=
  if checkR f b ≠ 0 then ([], 0, checkR f b) else if ¬ In most 0 12 then ([], 0, 2)
  else (((Pick.allE b.ripe.length most.toNat).foldl (Pick.up1 (worthR f b)) ([], 0)).1, ((Pick.allE b.ripe.length most.toNat).foldl (Pick.up1 (worthR f b)) ([], 0)).2, 0)

theorem perm4 (x1 x2 x3 x4 : Nat × Blk) (R : Hp) : (x1 :: x2 :: x3 :: x4 :: R).Perm (x3 :: x4 :: x1 :: x2 :: R) := (List.perm_append_comm (l₁ := [x1, x2]) (l₂ := [x3, x4])).append_right R
theorem c29 (f : Ft) (b : Bn) (ao : Option Addr) (c : Nat) (most : Int) (hl : b.ripe.length ≤ 1000000) (w : World) (ha : Sl w 2 encSp ao b.ripe) :
    Calls Try.prog 29 #[.agg (encFt f).toArray, .agg (encBn b ao c).toArray, .int .i64 most] w (RetP w.heap.size w (fun q : Option Addr × Nat × Hp => .tuple #[.slice q.1 (bestR f b most).1.length q.2.1, .int .i64 (bestR f b most).2.1, .int .i64 (bestR f b most).2.2]) (fun q => q.2.2) (fun q => Row 3 1 encI q.1 q.2.1 q.2.2 (bestR f b most).1)) := by
  refine enter (args := [.agg (encFt f).toArray, .agg (encBn b ao c).toArray, .int .i64 most]) Try.func29 rfl Try.ntmps29 rfl (SH.refl _) ?_
  repeat' (first | refine rn ?_ | (apply TL_box; exact rfl; exact rfl; exact rfl; intro _ _) | (apply TL_alloc; exact rfl; intro _ _) | (apply TL_buildSlice; exact rfl; exact rfl; exact rfl; exact rfl; exact rfl; intro _ _))
  rename_i b3 _ b4 _ b6 _ b7 _
  refine TL_callV rfl rfl rfl (fun w h => c25 f b ao c hl w (h.sl ha)) ?_
  repeat' (first | refine rn ?_ | (apply TL_box; exact rfl; exact rfl; exact rfl; intro _ _) | (apply TL_alloc; exact rfl; intro _ _) | (apply TL_buildSlice; exact rfl; exact rfl; exact rfl; exact rfl; exact rfl; intro _ _))
  refine TC_cond_dec rfl (fun g1 => ?_) (fun g1 => ?_)
  · have e : bestR f b most = ([], 0, checkR f b) := by unfold bestR; rw [if_pos g1]
    rw [e]
    repeat' (first | refine rn ?_ | (apply TL_box; exact rfl; exact rfl; exact rfl; intro _ _) | (apply TL_alloc; exact rfl; intro _ _) | (apply TL_buildSlice; exact rfl; exact rfl; exact rfl; exact rfl; exact rfl; intro _ _))
    exact TQ_ret3 Try.results29 (RV.cell1 rfl mm (by rfl)) (RV.cell1 rfl mm (by rfl)) (RV.tmp rfl) (fun w' hs => ⟨(none, 0, []), Row.nil _ _ _, rfl, hs.sub (List.nil_sublist _)⟩)
  obtain ⟨hf, hb⟩ := checkR_ok (Classical.not_not.1 g1)
  have hn : b.ripe.length ≤ 12 := by have := hb.1; simp only [In] at this; omega
  have c46' := fun ao c w h => c46 0 12 [most] ao c (by simp) w h
  have e46 : decide (∀ y ∈ [most], In y 0 12) = decide (In most 0 12) := by rw [decide_eq_decide]; simp
  rw [e46] at c46'
  repeat' (first | refine rn ?_ | (apply TL_box; exact rfl; exact rfl; exact rfl; intro _ _) | (apply TL_alloc; exact rfl; intro _ _) | (apply TL_buildSlice; exact rfl; exact rfl; exact rfl; exact rfl; exact rfl; intro _ _))
  rename_i b20 _
  refine TL_callV rfl rfl rfl (fun w h => c46' _ _ w (Sl.of_blk h mm (fun _ _ => rfl) ⟨[], rfl⟩)) ?_
  repeat' (first | refine rn ?_ | (apply TL_box; exact rfl; exact rfl; exact rfl; intro _ _) | (apply TL_alloc; exact rfl; intro _ _) | (apply TL_buildSlice; exact rfl; exact rfl; exact rfl; exact rfl; exact rfl; intro _ _))
  refine TC_cond_dec rfl (fun g2 => ?_) (fun g2 => ?_)
  · have e : bestR f b most = ([], 0, 2) := by unfold bestR; rw [if_neg g1, if_pos g2]
    rw [e]
    repeat' (first | refine rn ?_ | (apply TL_box; exact rfl; exact rfl; exact rfl; intro _ _) | (apply TL_alloc; exact rfl; intro _ _) | (apply TL_buildSlice; exact rfl; exact rfl; exact rfl; exact rfl; exact rfl; intro _ _))
    exact TQ_ret3 Try.results29 (RV.cell1 rfl mm (by rfl)) (RV.cell1 rfl mm (by rfl)) (RV.tmp rfl) (fun w' hs => ⟨(none, 0, []), Row.nil _ _ _, rfl, hs.sub (List.nil_sublist _)⟩)
  have hmost := Classical.not_not.1 g2
  simp only [In] at hmost
  obtain ⟨mm', rfl⟩ : ∃ k : Nat, most = (k : Int) := ⟨most.toNat, by omega⟩
  have e : bestR f b (mm' : Int) = (((Pick.allE b.ripe.length mm').foldl (Pick.up1 (worthR f b)) ([], 0)).1, ((Pick.allE b.ripe.length mm').foldl (Pick.up1 (worthR f b)) ([], 0)).2, 0) := by
    unfold bestR; rw [if_neg g1, if_neg g2]; simp
  rw [e]
  repeat' (first | refine rn ?_ | (apply TL_box; exact rfl; exact rfl; exact rfl; intro _ _) | (apply TL_alloc; exact rfl; intro _ _) | (apply TL_buildSlice; exact rfl; exact rfl; exact rfl; exact rfl; exact rfl; intro _ _))
  rename_i b10 _ b11 _
  refine TC_loop (σ := Nat × (List Int × Int) × Option Addr × Nat × Hp) (fun q => q.1 ≤ min mm' b.ripe.length + 1 ∧ q.2.1 = ((List.range q.1).flatMap (fun m => Pick.tryE b.ripe.length m [])).foldl (Pick.up1 (worthR f b)) ([], 0) ∧ Row 3 1 encI q.2.2.1 q.2.2.2.1 q.2.2.2.2 q.2.1.1)
    (fun q => [(6, .pointer (some ⟨b6, 0, none⟩)), (7, .pointer (some ⟨b7, 0, none⟩)), (8, .int .i64 0), (11, .pointer (some ⟨b11, 0, none⟩)), (32, .int .i64 (min (mm' : Int) (b.ripe.length : Int) + 1)), (33, .int .i64 q.1)])
    (fun q => (b7, .cells [.int .i64 q.2.1.2] 3) :: (b6, .cells [.slice q.2.2.1 q.2.1.1.length q.2.2.2.1] 47) :: (q.2.2.2.2 ++ [(b11, .cells [.func (.func 64) #[] #[.pointer (some ⟨b10, 0, none⟩), .pointer (some ⟨b7, 0, none⟩), .pointer (some ⟨b6, 0, none⟩), .pointer (some ⟨b4, 0, none⟩), .pointer (some ⟨b11, 0, none⟩)]] 115), (b10, .cells (encTr f b ao c) 110), (b4, .cells (encBn b ao c) 46), (b3, .cells (encFt f) 43)])) (fun q => min mm' b.ripe.length + 1 - q.1) (0, ([], 0), none, 0, []) ⟨Nat.zero_le _, rfl, Row.nil _ _ _⟩ sb
    (fun w h => (h.sub (List.Sublist.cons_cons _ (List.Sublist.cons_cons _ (List.Sublist.cons _ (List.Sublist.refl _))))).perm (perm4 _ _ _ _ _)) ?_
  rintro ⟨k, ⟨cs, wo⟩, cso, csc, ob⟩ ⟨hk, hst, hrow⟩
  dsimp only at hk hst hrow ⊢
  repeat' (first | refine rn ?_ | (apply TL_box; exact rfl; exact rfl; exact rfl; intro _ _) | (apply TL_alloc; exact rfl; intro _ _) | (apply TL_buildSlice; exact rfl; exact rfl; exact rfl; exact rfl; exact rfl; intro _ _))
  refine TC_cond_dec rfl (fun h1 => ?_) (fun h1 => ?_)
  · have hlt : k < min mm' b.ripe.length + 1 := by omega
    have hstep : ((List.range (k + 1)).flatMap (fun m => Pick.tryE b.ripe.length m [])).foldl (Pick.up1 (worthR f b)) ([], 0) = (Pick.tryE b.ripe.length k []).foldl (Pick.up1 (worthR f b)) (cs, wo) := by
      rw [List.range_succ, List.flatMap_append, List.foldl_append, ← hst]; simp
    repeat' (first | refine rn ?_ | (apply TL_box; exact rfl; exact rfl; exact rfl; intro _ _) | (apply TL_alloc; exact rfl; intro _ _) | (apply TL_buildSlice; exact rfl; exact rfl; exact rfl; exact rfl; exact rfl; intro _ _))
    refine TL_call rfl rfl rfl _ _ _ (fun w h => c64 f b ao c hf hb (fun h => h.sl ha) b10 b7 b6 b4 b11 k [] none 0 cs cso csc ob wo [(b11, .cells [.func (.func 64) #[] #[.pointer (some ⟨b10, 0, none⟩), .pointer (some ⟨b7, 0, none⟩), .pointer (some ⟨b6, 0, none⟩), .pointer (some ⟨b4, 0, none⟩), .pointer (some ⟨b11, 0, none⟩)]] 115), (b10, .cells (encTr f b ao c) 110), (b4, .cells (encBn b ao c) 46), (b3, .cells (encFt f) 43)] trivial (Nat.le_refl _) (fun _ => rfl) (by omega) mm mm mm (fun h _ => Sl.nil _ _ _ _) hrow w h) ?_
    rintro ⟨cso2, csc2, ob2⟩ hrow2
    replace hrow2 : Row 3 1 encI cso2 csc2 ob2 ((Pick.tryE b.ripe.length k []).foldl (Pick.up1 (worthR f b)) (cs, wo)).1 := hrow2
    dsimp only
    repeat' (first | refine rn ?_ | (apply TL_box; exact rfl; exact rfl; exact rfl; intro _ _) | (apply TL_alloc; exact rfl; intro _ _) | (apply TL_buildSlice; exact rfl; exact rfl; exact rfl; exact rfl; exact rfl; intro _ _))
    exact TQ_round (k + 1, (Pick.tryE b.ripe.length k []).foldl (Pick.up1 (worthR f b)) (cs, wo), cso2, csc2, ob2) ⟨hlt, hstep.symm, hrow2⟩ (by dsimp only; omega) sb (fun w h => h)
  · have hkl : k = min mm' b.ripe.length + 1 := by omega
    subst hkl
    have hall : (cs, wo) = (Pick.allE b.ripe.length mm').foldl (Pick.up1 (worthR f b)) ([], 0) := hst
    rw [← hall]
    repeat' (first | refine rn ?_ | (apply TL_box; exact rfl; exact rfl; exact rfl; intro _ _) | (apply TL_alloc; exact rfl; intro _ _) | (apply TL_buildSlice; exact rfl; exact rfl; exact rfl; exact rfl; exact rfl; intro _ _))
    refine TC_any Try.mixed ?_
    refine TA_stepL [0, 1] (by kernel_rfl) rfl ⟨?_, ?_, trivial⟩
    · change TL _ _ _ _ _ _ _ _ _ _ _
      refine r1 ?_; apply TL_nil; apply TQ_any
      refine TA_stepL [1, 2] (by kernel_rfl) rfl ⟨?_, ?_, trivial⟩
      · change TL _ _ _ _ _ _ _ _ _ _ _
        refine r1 ?_; apply TL_nil; apply TQ_any
        refine TA_stepL [2] (by kernel_rfl) rfl ⟨?_, trivial⟩
        change TL _ _ _ _ _ _ _ _ _ _ _
        refine r1 ?_; apply TL_nil; apply TQ_any
        refine TA_stepL [3] (by kernel_rfl) rfl ⟨?_, trivial⟩
        change TL _ _ _ _ _ _ _ _ _ _ _
        refine r1 ?_; apply TL_nil; apply TQ_any
        refine TA_stepL [4] (by kernel_rfl) rfl ⟨?_, trivial⟩
        change TL _ _ _ _ _ _ _ _ _ _ _
        refine r1 ?_; apply TL_nil; apply TQ_any
        refine TA_done (by kernel_rfl) ?_
        (refine rn ?_; refine TQ_ret3 Try.results29 (RV.cell1 rfl mm (by rfl)) (RV.cell1 rfl mm (by rfl)) (RV.tmp rfl) (fun w' hs => ⟨(cso, csc, ob), hrow, rfl, hs.sub (List.Sublist.cons _ (List.Sublist.cons _ (List.sublist_append_left _ _)))⟩))
      · change TL _ _ _ _ _ _ _ _ _ _ _
        refine r1 ?_; apply TL_nil; apply TQ_any
        refine TA_stepL [1] (by kernel_rfl) rfl ⟨?_, trivial⟩
        change TL _ _ _ _ _ _ _ _ _ _ _
        refine r1 ?_; apply TL_nil; apply TQ_any
        refine TA_stepL [3] (by kernel_rfl) rfl ⟨?_, trivial⟩
        change TL _ _ _ _ _ _ _ _ _ _ _
        refine r1 ?_; apply TL_nil; apply TQ_any
        refine TA_stepL [4] (by kernel_rfl) rfl ⟨?_, trivial⟩
        change TL _ _ _ _ _ _ _ _ _ _ _
        refine r1 ?_; apply TL_nil; apply TQ_any
        refine TA_done (by kernel_rfl) ?_
        (refine rn ?_; refine TQ_ret3 Try.results29 (RV.cell1 rfl mm (by rfl)) (RV.cell1 rfl mm (by rfl)) (RV.tmp rfl) (fun w' hs => ⟨(cso, csc, ob), hrow, rfl, hs.sub (List.Sublist.cons _ (List.Sublist.cons _ (List.sublist_append_left _ _)))⟩))
    · change TL _ _ _ _ _ _ _ _ _ _ _
      refine r1 ?_; apply TL_nil; apply TQ_any
      refine TA_stepL [0] (by kernel_rfl) rfl ⟨?_, trivial⟩
      change TL _ _ _ _ _ _ _ _ _ _ _
      refine r1 ?_; apply TL_nil; apply TQ_any
      refine TA_stepL [2] (by kernel_rfl) rfl ⟨?_, trivial⟩
      change TL _ _ _ _ _ _ _ _ _ _ _
      refine r1 ?_; apply TL_nil; apply TQ_any
      refine TA_stepL [3] (by kernel_rfl) rfl ⟨?_, trivial⟩
      change TL _ _ _ _ _ _ _ _ _ _ _
      refine r1 ?_; apply TL_nil; apply TQ_any
      refine TA_stepL [4] (by kernel_rfl) rfl ⟨?_, trivial⟩
      change TL _ _ _ _ _ _ _ _ _ _ _
      refine r1 ?_; apply TL_nil; apply TQ_any
      refine TA_done (by kernel_rfl) ?_
      (refine rn ?_; refine TQ_ret3 Try.results29 (RV.cell1 rfl mm (by rfl)) (RV.cell1 rfl mm (by rfl)) (RV.tmp rfl) (fun w' hs => ⟨(cso, csc, ob), hrow, rfl, hs.sub (List.Sublist.cons _ (List.Sublist.cons _ (List.sublist_append_left _ _)))⟩))
end Go.Proofs.Ytccgplomnjpniaa
