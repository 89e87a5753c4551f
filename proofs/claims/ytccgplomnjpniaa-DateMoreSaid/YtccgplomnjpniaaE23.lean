/- Walks: Best, of the reference. -/
import Derived.Test.YtccgplomnjpniaaE22
import Derived.Test.YtccgplomnjpniaaE17
namespace Go.Proofs.Ytccgplomnjpniaa
open Go Go.Eng Go.RowKit Go.Proofs
set_option maxHeartbeats 2000000
set_option maxRecDepth 10000
attribute [local irreducible] TL TC TQ

/-- What the reference has found among the first k numbers. -/
def refSt (f : Ft) (b : Bn) (mm k : Nat) : List Int × Int := (((List.range k).map (fun s => Pick.bitsR b.ripe.length (s + 1))).filter (fun l => decide (l.length ≤ mm))).foldl (Pick.up2 (worthR f b)) ([], 0)
theorem refSt_succ (f : Ft) (b : Bn) (mm k : Nat) : refSt f b mm (k + 1) = if (Pick.bitsR b.ripe.length (k + 1)).length ≤ mm then Pick.up2 (worthR f b) (refSt f b mm k) (Pick.bitsR b.ripe.length (k + 1)) else refSt f b mm k := by
  unfold refSt
  rw [List.range_succ, List.map_append, List.filter_append, List.foldl_append]
  by_cases h : (Pick.bitsR b.ripe.length (k + 1)).length ≤ mm
  · rw [if_pos h]; simp [h]
  · rw [if_neg h]; simp [h]
theorem worthR_nil (f : Ft) (b : Bn) : worthR f b [] = 0 := by
  have key : ∀ k, (cutK f b [] k).worth = (0, 0) := by
    intro k
    induction k with
    | zero => rfl
    | succ k ih =>
      rw [cutK]
      unfold stepY
      have h1 : (fateR f b.ripe.length [] k).1 = 1 ∨ (fateR f b.ripe.length [] k).1 = 2 := by
        have : fateR f b.ripe.length [] k = restR f b.ripe.length k := rfl
        rw [this]; unfold restR; split
        · exact .inl rfl
        · exact .inr rfl
      dsimp only
      rw [if_neg (by omega)]
      split <;> exact ih
  unfold worthR cutR
  rw [key]
theorem best_ref {f : Ft} {b : Bn} (hf : OkFt f) (hb : OkBn b) (mm : Nat) : refSt f b mm (2 ^ b.ripe.length - 1) = (Pick.allE b.ripe.length mm).foldl (Pick.up1 (worthR f b)) ([], 0) :=
  (Pick.best_eq (worthR_nonneg hf hb) (worthR_nil f b) _ _).symm
theorem bitsR_len (n s : Nat) : (Pick.bitsR n s).length ≤ n := inc_len (Pick.bitsR_inc n s)

theorem c30 (f : Ft) (b : Bn) (ao : Option Addr) (c : Nat) (most : Int) (hl : b.ripe.length ≤ 1000000) (w : World) (ha : Sl w 2 encSp ao b.ripe) :
    Calls Try.prog 30 #[.agg (encFt f).toArray, .agg (encBn b ao c).toArray, .int .i64 most] w (RetP w.heap.size w (fun q : Option Addr × Nat × Hp => .tuple #[.slice q.1 (bestR f b most).1.length q.2.1, .int .i64 (bestR f b most).2.1, .int .i64 (bestR f b most).2.2]) (fun q => q.2.2) (fun q => Row 3 1 encI q.1 q.2.1 q.2.2 (bestR f b most).1)) := by
  refine enter (args := [.agg (encFt f).toArray, .agg (encBn b ao c).toArray, .int .i64 most]) Try.func30 rfl Try.ntmps30 rfl (SH.refl _) ?_
  repeat' (first | refine rn ?_ | (apply TL_box; exact rfl; exact rfl; exact rfl; intro _ _) | (apply TL_alloc; exact rfl; intro _ _) | (apply TL_buildSlice; exact rfl; exact rfl; exact rfl; exact rfl; exact rfl; intro _ _))
  rename_i b3 _ b4 _
  refine TL_callV rfl rfl rfl (fun w h => c26 f b ao c hl w (h.sl ha)) ?_
  repeat' (first | refine rn ?_ | (apply TL_box; exact rfl; exact rfl; exact rfl; intro _ _) | (apply TL_alloc; exact rfl; intro _ _) | (apply TL_buildSlice; exact rfl; exact rfl; exact rfl; exact rfl; exact rfl; intro _ _))
  refine TC_cond_dec rfl (fun g1 => ?_) (fun g1 => ?_)
  · have e : bestR f b most = ([], 0, checkR f b) := by unfold bestR; rw [if_pos g1]
    rw [e]
    repeat' (first | refine rn ?_ | (apply TL_box; exact rfl; exact rfl; exact rfl; intro _ _) | (apply TL_alloc; exact rfl; intro _ _) | (apply TL_buildSlice; exact rfl; exact rfl; exact rfl; exact rfl; exact rfl; intro _ _))
    exact TQ_ret3 Try.results30 (RV.tmp rfl) (RV.tmp rfl) (RV.tmp rfl) (fun w' hs => ⟨(none, 0, []), Row.nil _ _ _, rfl, hs.sub (List.nil_sublist _)⟩)
  obtain ⟨hf, hb⟩ := checkR_ok (Classical.not_not.1 g1)
  have hn : b.ripe.length ≤ 12 := by have := hb.1; simp only [In] at this; omega
  repeat' (first | refine rn ?_ | (apply TL_box; exact rfl; exact rfl; exact rfl; intro _ _) | (apply TL_alloc; exact rfl; intro _ _) | (apply TL_buildSlice; exact rfl; exact rfl; exact rfl; exact rfl; exact rfl; intro _ _))
  refine TL_callV rfl rfl rfl (fun w _ => c48 most 0 12 w) ?_
  repeat' (first | refine rn ?_ | (apply TL_box; exact rfl; exact rfl; exact rfl; intro _ _) | (apply TL_alloc; exact rfl; intro _ _) | (apply TL_buildSlice; exact rfl; exact rfl; exact rfl; exact rfl; exact rfl; intro _ _))
  refine TC_cond_dec rfl (fun g2 => ?_) (fun g2 => ?_)
  · have e : bestR f b most = ([], 0, 2) := by unfold bestR; rw [if_neg g1, if_pos g2]
    rw [e]
    repeat' (first | refine rn ?_ | (apply TL_box; exact rfl; exact rfl; exact rfl; intro _ _) | (apply TL_alloc; exact rfl; intro _ _) | (apply TL_buildSlice; exact rfl; exact rfl; exact rfl; exact rfl; exact rfl; intro _ _))
    exact TQ_ret3 Try.results30 (RV.tmp rfl) (RV.tmp rfl) (RV.tmp rfl) (fun w' hs => ⟨(none, 0, []), Row.nil _ _ _, rfl, hs.sub (List.nil_sublist _)⟩)
  have hmost := Classical.not_not.1 g2
  simp only [In] at hmost
  obtain ⟨mm', rfl⟩ : ∃ k : Nat, most = (k : Int) := ⟨most.toNat, by omega⟩
  have e : bestR f b (mm' : Int) = ((refSt f b mm' (2 ^ b.ripe.length - 1)).1, (refSt f b mm' (2 ^ b.ripe.length - 1)).2, 0) := by
    rw [best_ref hf hb]; unfold bestR; rw [if_neg g1, if_neg g2]; simp
  rw [e]
  have hpow : (1 : Int) * 2 ^ b.ripe.length = ((2 ^ b.ripe.length : Nat) : Int) := by simp
  have hp1 : 1 ≤ 2 ^ b.ripe.length := Nat.one_le_two_pow
  have hp2 : 2 ^ b.ripe.length ≤ 4096 := Nat.pow_le_pow_right (by omega) hn
  repeat' (first | refine rn ?_ | (apply TL_box; exact rfl; exact rfl; exact rfl; intro _ _) | (apply TL_alloc; exact rfl; intro _ _) | (apply TL_buildSlice; exact rfl; exact rfl; exact rfl; exact rfl; exact rfl; intro _ _))
  refine TC_loop (σ := Nat × Option Addr × Nat × Hp) (fun q => q.1 + 1 ≤ 2 ^ b.ripe.length ∧ Row 3 1 encI q.2.1 q.2.2.1 q.2.2.2 (refSt f b mm' q.1).1 ∧ (refSt f b mm' q.1).1.length ≤ 12)
    (fun q => [(2, .int .i64 mm'), (3, .pointer (some ⟨b3, 0, none⟩)), (4, .pointer (some ⟨b4, 0, none⟩)), (10, .slice q.2.1 (refSt f b mm' q.1).1.length q.2.2.1), (11, .int .i64 (refSt f b mm' q.1).2), (12, .int .i64 ((q.1 + 1 : Nat) : Int))])
    (fun q => q.2.2.2 ++ [(b4, .cells (encBn b ao c) 46), (b3, .cells (encFt f) 43)]) (fun q => 2 ^ b.ripe.length - q.1) (0, none, 0, []) ⟨by dsimp only; omega, Row.nil _ _ _, Nat.zero_le _⟩ sb (fun w h => h) ?_
  rintro ⟨k, bo, bcap, ob⟩ ⟨hk, hrow, hcl⟩
  dsimp only at hk hrow hcl ⊢
  have hnext := refSt_succ f b mm' k
  have hlenb := bitsR_len b.ripe.length (k + 1)
  have hincb := Pick.bitsR_inc b.ripe.length (k + 1)
  generalize hst : refSt f b mm' k = st at *
  obtain ⟨cs, wo⟩ := st
  dsimp only at hrow hcl ⊢
  repeat' (first | refine rn ?_ | (apply TL_box; exact rfl; exact rfl; exact rfl; intro _ _) | (apply TL_alloc; exact rfl; intro _ _) | (apply TL_buildSlice; exact rfl; exact rfl; exact rfl; exact rfl; exact rfl; intro _ _))
  refine TL_shl (n := b.ripe.length) rfl rfl rfl (by omega) (by rw [hpow]; omega) ?_
  rw [hpow]
  repeat' (first | refine rn ?_ | (apply TL_box; exact rfl; exact rfl; exact rfl; intro _ _) | (apply TL_alloc; exact rfl; intro _ _) | (apply TL_buildSlice; exact rfl; exact rfl; exact rfl; exact rfl; exact rfl; intro _ _))
  refine TC_cond_dec rfl (fun h1 => ?_) (fun h1 => ?_)
  rotate_left
  · have hkl : k = 2 ^ b.ripe.length - 1 := by omega
    subst hkl
    rw [hst]
    repeat' (first | refine rn ?_ | (apply TL_box; exact rfl; exact rfl; exact rfl; intro _ _) | (apply TL_alloc; exact rfl; intro _ _) | (apply TL_buildSlice; exact rfl; exact rfl; exact rfl; exact rfl; exact rfl; intro _ _))
    exact TQ_ret3 Try.results30 (RV.tmp rfl) (RV.tmp rfl) (RV.tmp rfl) (fun w' hs => ⟨(bo, bcap, ob), hrow, rfl, hs.sub (List.sublist_append_left _ _)⟩)
  have hlt : k + 1 < 2 ^ b.ripe.length := by omega
  repeat' (first | refine rn ?_ | (apply TL_box; exact rfl; exact rfl; exact rfl; intro _ _) | (apply TL_alloc; exact rfl; intro _ _) | (apply TL_buildSlice; exact rfl; exact rfl; exact rfl; exact rfl; exact rfl; intro _ _))
  -- the cuts that the number stands for
  refine TC_loop (σ := Nat × Option Addr × Nat × Hp) (fun q => q.1 ≤ b.ripe.length ∧ Row 3 1 encI q.2.1 q.2.2.1 q.2.2.2 (Pick.bitsR q.1 (k + 1)))
    (fun q => [(2, .int .i64 mm'), (3, .pointer (some ⟨b3, 0, none⟩)), (4, .pointer (some ⟨b4, 0, none⟩)), (10, .slice bo cs.length bcap), (11, .int .i64 wo), (12, .int .i64 ((k + 1 : Nat) : Int)), (13, .slice q.2.1 (Pick.bitsR q.1 (k + 1)).length q.2.2.1), (14, .int .i64 q.1)])
    (fun q => q.2.2.2 ++ (ob ++ [(b4, .cells (encBn b ao c) 46), (b3, .cells (encFt f) 43)])) (fun q => b.ripe.length - q.1) (0, none, 0, []) ⟨Nat.zero_le _, Row.nil _ _ _⟩ sb (fun w h => h) ?_
  rintro ⟨i, lo, lc, ob2⟩ ⟨hi, hrow2⟩
  dsimp only at hi hrow2 ⊢
  repeat' (first | refine rn ?_ | (apply TL_box; exact rfl; exact rfl; exact rfl; intro _ _) | (apply TL_alloc; exact rfl; intro _ _) | (apply TL_buildSlice; exact rfl; exact rfl; exact rfl; exact rfl; exact rfl; intro _ _))
  refine TC_cond_dec rfl (fun h2 => ?_) (fun h2 => ?_)
  · have hil : i < b.ripe.length := by omega
    have hsucc := Pick.bitsR_succ i (k + 1)
    have hlen2 := bitsR_len i (k + 1)
    repeat' (first | refine rn ?_ | (apply TL_box; exact rfl; exact rfl; exact rfl; intro _ _) | (apply TL_alloc; exact rfl; intro _ _) | (apply TL_buildSlice; exact rfl; exact rfl; exact rfl; exact rfl; exact rfl; intro _ _))
    refine TL_shr (m := k + 1) (n := i) rfl rfl rfl (by omega) ?_
    refine TL_and1 rfl rfl rfl (by have := Nat.div_le_self (k + 1) (2 ^ i); omega) ?_
    repeat' (first | refine rn ?_ | (apply TL_box; exact rfl; exact rfl; exact rfl; intro _ _) | (apply TL_alloc; exact rfl; intro _ _) | (apply TL_buildSlice; exact rfl; exact rfl; exact rfl; exact rfl; exact rfl; intro _ _))
    refine TC_cond_dec rfl (fun h3 => ?_) (fun h3 => ?_)
    · rw [if_pos (by omega)] at hsucc
      repeat' (first | refine rn ?_ | (apply TL_box; exact rfl; exact rfl; exact rfl; intro _ _) | (apply TL_alloc; exact rfl; intro _ _) | (apply TL_buildSlice; exact rfl; exact rfl; exact rfl; exact rfl; exact rfl; intro _ _))
      refine TL_append (l := Pick.bitsR i (k + 1)) (l2 := [(i : Int)]) (enc := encI) (G := _) rfl (by rfl) rfl rfl rfl rfl rfl hrow2 (pm_cons pm_here) (fun w h => Sl.of_blk h mm (fun _ _ => rfl) ⟨[], by rfl⟩) (fun u _ => rfl) (by simp only [List.length_singleton]; omega) (by simp only [List.length_singleton, maxLen]; omega) (fun so' sc' ob' hrow' => ?_)
      rw [← hsucc] at hrow' ⊢
      repeat' (first | refine rn ?_ | (apply TL_box; exact rfl; exact rfl; exact rfl; intro _ _) | (apply TL_alloc; exact rfl; intro _ _) | (apply TL_buildSlice; exact rfl; exact rfl; exact rfl; exact rfl; exact rfl; intro _ _))
      exact TQ_round (i + 1, so', sc', ob') ⟨hil, hrow'⟩ (by dsimp only; omega) sb (fun w h => h.sub (List.Sublist.append_left (List.Sublist.cons _ (List.Sublist.refl _)) _))
    · rw [if_neg (by omega), List.append_nil] at hsucc
      rw [← hsucc] at hrow2 ⊢
      repeat' (first | refine rn ?_ | (apply TL_box; exact rfl; exact rfl; exact rfl; intro _ _) | (apply TL_alloc; exact rfl; intro _ _) | (apply TL_buildSlice; exact rfl; exact rfl; exact rfl; exact rfl; exact rfl; intro _ _))
      exact TQ_round (i + 1, lo, lc, ob2) ⟨hil, hrow2⟩ (by dsimp only; omega) sb (fun w h => h)
  obtain rfl : i = b.ripe.length := by omega
  repeat' (first | refine rn ?_ | (apply TL_box; exact rfl; exact rfl; exact rfl; intro _ _) | (apply TL_alloc; exact rfl; intro _ _) | (apply TL_buildSlice; exact rfl; exact rfl; exact rfl; exact rfl; exact rfl; intro _ _))
  generalize Pick.bitsR b.ripe.length (k + 1) = l at *
  have hcast : ((k + 1 + 1 : Nat) : Int) = ((k + 1 : Nat) : Int) + 1 := by omega
  refine TC_cond_dec rfl (fun h3 => ?_) (fun h3 => ?_)
  · rw [if_neg (by omega)] at hnext
    repeat' (first | refine rn ?_ | (apply TL_box; exact rfl; exact rfl; exact rfl; intro _ _) | (apply TL_alloc; exact rfl; intro _ _) | (apply TL_buildSlice; exact rfl; exact rfl; exact rfl; exact rfl; exact rfl; intro _ _))
    exact TQ_round (k + 1, bo, bcap, ob) ⟨by dsimp only; omega, by dsimp only; rw [hnext]; exact ⟨hrow, hcl⟩⟩ (by dsimp only; omega) (by dsimp only; rw [hnext, hcast]; exact sb) (fun w h => h.sub (List.sublist_append_right _ _))
  rw [if_pos (by omega)] at hnext
  repeat' (first | refine rn ?_ | (apply TL_box; exact rfl; exact rfl; exact rfl; intro _ _) | (apply TL_alloc; exact rfl; intro _ _) | (apply TL_buildSlice; exact rfl; exact rfl; exact rfl; exact rfl; exact rfl; intro _ _))
  refine TL_callV rfl rfl rfl (fun w h => c61 f b ao c l lo lc hf hb (inc_ok (by omega) hincb) w (h.sl ha) (hrow2.sl h (fun p hp => (by repeat (first | exact List.mem_append_left _ hp | apply List.mem_append_right | apply List.mem_cons_of_mem))))) ?_
  refine TL_fieldn rfl rfl rfl ?_
  refine TL_field1 rfl rfl rfl ?_
  have hW : worthR f b l = (cutR f b l).worth.1 := rfl
  have c67' := fun w h1 h2 => c67 l cs lo bo lc bcap (by omega) (by omega) w h1 h2
  by_cases g3 : wo < (cutR f b l).worth.1
  · unfold Pick.up2 at hnext
    rw [if_pos (.inl (by rw [hW]; exact g3)), hW] at hnext
    repeat' (first | (refine TL_gtr_t rfl rfl rfl g3 ?_) | refine r1 ?_ | (apply TL_box; exact rfl; exact rfl; exact rfl; intro _ _) | (apply TL_alloc; exact rfl; intro _ _) | (apply TL_buildSlice; exact rfl; exact rfl; exact rfl; exact rfl; exact rfl; intro _ _))
    refine TQ_round (k + 1, lo, lc, ob2) ⟨by dsimp only; omega, by dsimp only; rw [hnext]; exact ⟨hrow2, by dsimp only; omega⟩⟩ (by dsimp only; omega) (by dsimp only; rw [hnext, hcast]; exact sb) (fun w h => ?_)
    exact h.sub (List.Sublist.append_left (List.sublist_append_right _ _) _)
  · by_cases g4 : (cutR f b l).worth.1 = wo
    · repeat' (first | (refine TL_gtr_f rfl rfl rfl g3 ?_) | (refine TL_eql_t rfl rfl rfl g4 ?_) | refine r1 ?_ | (apply TL_box; exact rfl; exact rfl; exact rfl; intro _ _) | (apply TL_alloc; exact rfl; intro _ _) | (apply TL_buildSlice; exact rfl; exact rfl; exact rfl; exact rfl; exact rfl; intro _ _))
      refine TL_callV rfl rfl rfl (fun w h => c67' w (hrow2.sl h (fun p hp => (by repeat (first | exact List.mem_append_left _ hp | apply List.mem_append_right | apply List.mem_cons_of_mem)))) (hrow.sl h (fun p hp => (by repeat (first | exact List.mem_append_left _ hp | apply List.mem_append_right | apply List.mem_cons_of_mem))))) ?_
      repeat' (first | refine rn ?_ | (apply TL_box; exact rfl; exact rfl; exact rfl; intro _ _) | (apply TL_alloc; exact rfl; intro _ _) | (apply TL_buildSlice; exact rfl; exact rfl; exact rfl; exact rfl; exact rfl; intro _ _))
      refine TC_cond rfl (fun g5 => ?_) (fun g5 => ?_)
      · unfold Pick.up2 at hnext
        rw [if_pos (.inr ⟨by rw [hW]; exact g4, g5⟩), hW] at hnext
        repeat' (first | refine rn ?_ | (apply TL_box; exact rfl; exact rfl; exact rfl; intro _ _) | (apply TL_alloc; exact rfl; intro _ _) | (apply TL_buildSlice; exact rfl; exact rfl; exact rfl; exact rfl; exact rfl; intro _ _))
        refine TQ_round (k + 1, lo, lc, ob2) ⟨by dsimp only; omega, by dsimp only; rw [hnext]; exact ⟨hrow2, by dsimp only; omega⟩⟩ (by dsimp only; omega) (by dsimp only; rw [hnext, hcast]; exact sb) (fun w h => ?_)
        exact h.sub (List.Sublist.append_left (List.sublist_append_right _ _) _)
      · unfold Pick.up2 at hnext
        rw [if_neg (by rintro (h | h); exact g3 (by rw [hW] at h; exact h); rw [g5] at h; cases h.2)] at hnext
        repeat' (first | refine rn ?_ | (apply TL_box; exact rfl; exact rfl; exact rfl; intro _ _) | (apply TL_alloc; exact rfl; intro _ _) | (apply TL_buildSlice; exact rfl; exact rfl; exact rfl; exact rfl; exact rfl; intro _ _))
        exact TQ_round (k + 1, bo, bcap, ob) ⟨by dsimp only; omega, by dsimp only; rw [hnext]; exact ⟨hrow, hcl⟩⟩ (by dsimp only; omega) (by dsimp only; rw [hnext, hcast]; exact sb) (fun w h => h.sub (List.sublist_append_right _ _))
    · unfold Pick.up2 at hnext
      rw [if_neg (by rintro (h | h); exact g3 (by rw [hW] at h; exact h); exact g4 (by rw [hW] at h; exact h.1))] at hnext
      repeat' (first | (refine TL_gtr_f rfl rfl rfl g3 ?_) | (refine TL_eql_f rfl rfl rfl g4 ?_) | refine r1 ?_ | (apply TL_box; exact rfl; exact rfl; exact rfl; intro _ _) | (apply TL_alloc; exact rfl; intro _ _) | (apply TL_buildSlice; exact rfl; exact rfl; exact rfl; exact rfl; exact rfl; intro _ _))
      exact TQ_round (k + 1, bo, bcap, ob) ⟨by dsimp only; omega, by dsimp only; rw [hnext]; exact ⟨hrow, hcl⟩⟩ (by dsimp only; omega) (by dsimp only; rw [hnext, hcast]; exact sb) (fun w h => h.sub (List.sublist_append_right _ _))
end Go.Proofs.Ytccgplomnjpniaa
