/- Walks: dates that are cut. -/
import Derived.Test.YtccgplomnjpniaaE11
import Derived.Test.YtccgplomnjpniaaD9
namespace Go.Proofs.Ytccgplomnjpniaa
open Go Go.Eng Go.RowKit Go.Proofs
set_option maxHeartbeats 1000000
set_option maxRecDepth 10000
attribute [local irreducible] TL TC TQ

theorem encYd_g0 (y : Yd) (left : Sp) (one : Bool) : encYd (addG y 0 left one) = [.int .i64 (plusG y.g0 left one).1, .int .i64 (plusG y.g0 left one).2, .int .i64 y.g1.1, .int .i64 y.g1.2, .int .i64 y.g2.1, .int .i64 y.g2.2, .int .i64 y.taken.1, .int .i64 y.taken.2, .int .i64 y.fallen.1, .int .i64 y.fallen.2, .int .i64 y.left.1, .int .i64 y.left.2, .int .i64 y.worth.1, .int .i64 y.worth.2] := rfl

theorem Sl.prices {B : Nat} {w0 w : World} {H : Hp} {b : Nat} {f : Ft} {bn : Bn} {ao : Option Addr} {c : Nat} {T : TypeId} (h : SH B w0 w H) (hm : (b, .cells (encTr f bn ao c) T) ∈ H) (a n : Nat) (ha : a < 3) : Sl w 1 encI (some ⟨b, 0 + 4 + 7 + a * 1, none⟩) (((prL f).drop a).take n) := by
  have h1 : Sl w 1 encI (some ⟨b, 0 + 4 + 7 + a * 1, none⟩) ((prL f).drop a) := by
    refine Sl.of_blk_off h hm (fun _ _ => rfl) ⟨[], ?_⟩
    have : a = 0 ∨ a = 1 ∨ a = 2 := by omega
    rcases this with rfl | rfl | rfl <;> rfl
  exact h1.take n

theorem c80 {B : Nat} {w0 : World} (f : Ft) (b : Bn) (ao : Option Addr) (c : Nat) (y : Yd) (left : Sp) (d : Int) (hf : OkFt f) (hd : In d 0 30) (hy : YB y 10000000000) (hl : InS left 100000) (by_ : Nat) (G : Hp) (w : World) (hs : SH B w0 w ((by_, .cells (encYd y) 55) :: G)) :
    Calls Try.prog 80 #[.agg (encTr f b ao c).toArray, .pointer (some ⟨by_, 0, none⟩), .agg (encSp left).toArray, .int .i64 d] w (RetP B w0 (fun _ : Unit => .tuple #[]) (fun _ => (by_, .cells (encYd (pickR f y left d)) 55) :: G) (fun _ => True)) := by
  have hb := dayB hf hd
  obtain ⟨a, n, e1, e2, e3, e4, e5, e6⟩ := g_range hf hb hd.1
  obtain ⟨hne, hlen⟩ := someP_ne hf hb hd.1
  have hsp := someP_in hf d
  have hw := worthB hf hb hd.1 hl
  have c55' := fun w => c55 f d hb w
  have hB := fun k => addGs_B (a := a) (one := decide (n = 1)) hy hl k
  rw [e1, e2] at c55'
  refine enter (args := [.agg (encTr f b ao c).toArray, .pointer (some ⟨by_, 0, none⟩), .agg (encSp left).toArray, .int .i64 d]) Try.func80 rfl Try.ntmps80 rfl hs ?_
  repeat' (first | refine rn ?_ | (apply TL_box; exact rfl; exact rfl; exact rfl; intro _ _) | (apply TL_alloc; exact rfl; intro _ _) | (apply TL_buildSlice; exact rfl; exact rfl; exact rfl; exact rfl; exact rfl; intro _ _))
  rename_i b4 _ b6 _
  refine TL_callV rfl rfl rfl (fun w _ => c55' w) ?_
  repeat' (first | refine rn ?_ | (apply TL_box; exact rfl; exact rfl; exact rfl; intro _ _) | (apply TL_alloc; exact rfl; intro _ _) | (apply TL_buildSlice; exact rfl; exact rfl; exact rfl; exact rfl; exact rfl; intro _ _))
  rename_i b8 _
  refine TL_indexAddrA 0 rfl rfl rfl rfl (by omega) ?_
  repeat' (first | refine rn ?_ | (apply TL_box; exact rfl; exact rfl; exact rfl; intro _ _) | (apply TL_alloc; exact rfl; intro _ _) | (apply TL_buildSlice; exact rfl; exact rfl; exact rfl; exact rfl; exact rfl; intro _ _))
  refine TL_indexAddrA 1 rfl rfl rfl rfl (by omega) ?_
  repeat' (first | refine rn ?_ | (apply TL_box; exact rfl; exact rfl; exact rfl; intro _ _) | (apply TL_alloc; exact rfl; intro _ _) | (apply TL_buildSlice; exact rfl; exact rfl; exact rfl; exact rfl; exact rfl; intro _ _))
  refine TL_sliceA2 a (a + n) rfl rfl rfl rfl rfl (by omega) (by omega) (by omega) (by omega) ?_
  rw [show a + n - a = n by omega]
  repeat' (first | refine rn ?_ | (apply TL_box; exact rfl; exact rfl; exact rfl; intro _ _) | (apply TL_alloc; exact rfl; intro _ _) | (apply TL_buildSlice; exact rfl; exact rfl; exact rfl; exact rfl; exact rfl; intro _ _))
  refine TC_loop (σ := Nat) (fun k => k ≤ n) (fun k => [(1, .pointer (some ⟨by_, 0, none⟩)), (6, .pointer (some ⟨b6, 0, none⟩)), (8, .pointer (some ⟨b8, 0, none⟩)), (9, .slice (some ⟨b4, 0 + 4 + 7 + a * 1, none⟩) n (3 - a)), (25, .int .i64 n), (26, .int .i64 k)])
    (fun k => [(b8, .cells [.int .i64 a, .int .i64 ((a : Int) + n - 1)] 81), (b6, .cells (encSp left) 23), (b4, .cells (encTr f b ao c) 110), (by_, .cells (encYd (addGs y a left (decide (n = 1)) k)) 55)] ++ G) (fun k => n - k) 0 (Nat.zero_le _) sb (fun w h => h) (fun k hk => ?_)
  · have hBk := hB k
    obtain ⟨⟨q1, q2⟩, ⟨q3, q4⟩, ⟨q5, q6⟩, _, _, _, hwB⟩ := hBk
    obtain ⟨l1, l2⟩ := hl
    have hk10 : k ≤ 3 := by omega
    have hnext : addGs y a left (decide (n = 1)) (k + 1) = addG (addGs y a left (decide (n = 1)) k) (a + k) left (decide (n = 1)) := rfl
    have hdone : (someP f d).length = n := by rw [hlen, e6]
    have hpick : k = n → pickR f y left d = { addGs y a left (decide (n = 1)) k with worth := addSp (addGs y a left (decide (n = 1)) k).worth (minL (someP f d) * left.1, maxL (someP f d) * left.2) } := fun e => by subst e; simp only [pickR, e5, e6]
    generalize addGs y a left (decide (n = 1)) k = yk at *
    repeat' (first | refine rn ?_ | (apply TL_box; exact rfl; exact rfl; exact rfl; intro _ _) | (apply TL_alloc; exact rfl; intro _ _) | (apply TL_buildSlice; exact rfl; exact rfl; exact rfl; exact rfl; exact rfl; intro _ _))
    refine TC_cond_dec rfl (fun h1 => ?_) (fun h1 => ?_)
    · have hlt : k < n := by omega
      have hi : a + k = 0 ∨ a + k = 1 ∨ a + k = 2 := by omega
      repeat' (first | refine rn ?_ | (apply TL_box; exact rfl; exact rfl; exact rfl; intro _ _) | (apply TL_alloc; exact rfl; intro _ _) | (apply TL_buildSlice; exact rfl; exact rfl; exact rfl; exact rfl; exact rfl; intro _ _))
      rcases hi with hi | hi | hi
      · rw [hi] at hnext
        apply TC_draw 9; kernel_rfl; exact Try.mixed
        · (refine' pv ?_; rotate_left)
          (refine' PG.val rfl rfl (by intro _X; refine TL_indexAddrA 0 rfl rfl rfl rfl (by omega) ?_; exact qe) ?_; rotate_left)
          iterate 3 (refine' pv ?_; rotate_left)
          (refine' PG.val rfl rfl (by intro _X; refine TL_nilCheck rfl rfl ?_; exact qe) ?_; rotate_left)
          (refine' pv ?_; rotate_left)
          (refine' PG.val rfl rfl (by intro _X; refine TL_indexAddrA 0 rfl rfl rfl (by omega) (by omega) ?_; exact qe) ?_; rotate_left)
          (refine' pv ?_; rotate_left)
          exact PG.nil
        change TL _ _ _ _ _ _ _ _ _ _ _
        repeat' (first | refine rn ?_ | (apply TL_box; exact rfl; exact rfl; exact rfl; intro _ _) | (apply TL_alloc; exact rfl; intro _ _) | (apply TL_buildSlice; exact rfl; exact rfl; exact rfl; exact rfl; exact rfl; intro _ _))
        refine TC_cond_dec rfl (fun h2 => ?_) (fun h2 => ?_)
        · have hn : n = 1 := by omega
          repeat' (first | refine rn ?_ | (apply TL_box; exact rfl; exact rfl; exact rfl; intro _ _) | (apply TL_alloc; exact rfl; intro _ _) | (apply TL_buildSlice; exact rfl; exact rfl; exact rfl; exact rfl; exact rfl; intro _ _))
          apply TC_draw 9; kernel_rfl; exact Try.mixed
          · (refine' pv ?_; rotate_left)
            (refine' PG.val rfl rfl (by intro _X; refine TL_nilCheck rfl rfl ?_; exact qe) ?_; rotate_left)
            iterate 5 (refine' pv ?_; rotate_left)
            (refine' PG.val rfl rfl (by intro _X; refine TL_nilCheck rfl rfl ?_; exact qe) ?_; rotate_left)
            (refine' pv ?_; rotate_left)
            exact PG.nil
          change TL _ _ _ _ _ _ _ _ _ _ _
          repeat' (first | refine rn ?_ | (apply TL_box; exact rfl; exact rfl; exact rfl; intro _ _) | (apply TL_alloc; exact rfl; intro _ _) | (apply TL_buildSlice; exact rfl; exact rfl; exact rfl; exact rfl; exact rfl; intro _ _))
          apply TC_draw 9; kernel_rfl; exact Try.mixed
          · (refine' pv ?_; rotate_left)
            (refine' PG.val rfl rfl (by intro _X; refine TL_nilCheck rfl rfl ?_; exact qe) ?_; rotate_left)
            iterate 5 (refine' pv ?_; rotate_left)
            (refine' PG.val rfl rfl (by intro _X; refine TL_nilCheck rfl rfl ?_; exact qe) ?_; rotate_left)
            (refine' pv ?_; rotate_left)
            exact PG.nil
          change TL _ _ _ _ _ _ _ _ _ _ _
          repeat' (first | refine rn ?_ | (apply TL_box; exact rfl; exact rfl; exact rfl; intro _ _) | (apply TL_alloc; exact rfl; intro _ _) | (apply TL_buildSlice; exact rfl; exact rfl; exact rfl; exact rfl; exact rfl; intro _ _))
          refine TQ_round (k + 1) hlt (by omega) sb (fun w h => ?_)
          rw [hnext, decide_eq_true hn]; exact h
        · have hn : ¬ n = 1 := by omega
          repeat' (first | refine rn ?_ | (apply TL_box; exact rfl; exact rfl; exact rfl; intro _ _) | (apply TL_alloc; exact rfl; intro _ _) | (apply TL_buildSlice; exact rfl; exact rfl; exact rfl; exact rfl; exact rfl; intro _ _))
          apply TC_draw 9; kernel_rfl; exact Try.mixed
          · (refine' pv ?_; rotate_left)
            (refine' PG.val rfl rfl (by intro _X; refine TL_nilCheck rfl rfl ?_; exact qe) ?_; rotate_left)
            iterate 5 (refine' pv ?_; rotate_left)
            (refine' PG.val rfl rfl (by intro _X; refine TL_nilCheck rfl rfl ?_; exact qe) ?_; rotate_left)
            (refine' pv ?_; rotate_left)
            exact PG.nil
          change TL _ _ _ _ _ _ _ _ _ _ _
          repeat' (first | refine rn ?_ | (apply TL_box; exact rfl; exact rfl; exact rfl; intro _ _) | (apply TL_alloc; exact rfl; intro _ _) | (apply TL_buildSlice; exact rfl; exact rfl; exact rfl; exact rfl; exact rfl; intro _ _))
          refine TQ_round (k + 1) hlt (by omega) sb (fun w h => ?_)
          rw [hnext, decide_eq_false hn]; exact h
      · rw [hi] at hnext
        apply TC_draw 9; kernel_rfl; exact Try.mixed
        · (refine' pv ?_; rotate_left)
          (refine' PG.val rfl rfl (by intro _X; refine TL_indexAddrA 0 rfl rfl rfl rfl (by omega) ?_; exact qe) ?_; rotate_left)
          iterate 3 (refine' pv ?_; rotate_left)
          (refine' PG.val rfl rfl (by intro _X; refine TL_nilCheck rfl rfl ?_; exact qe) ?_; rotate_left)
          (refine' pv ?_; rotate_left)
          (refine' PG.val rfl rfl (by intro _X; refine TL_indexAddrA 1 rfl rfl rfl (by omega) (by omega) ?_; exact qe) ?_; rotate_left)
          (refine' pv ?_; rotate_left)
          exact PG.nil
        change TL _ _ _ _ _ _ _ _ _ _ _
        repeat' (first | refine rn ?_ | (apply TL_box; exact rfl; exact rfl; exact rfl; intro _ _) | (apply TL_alloc; exact rfl; intro _ _) | (apply TL_buildSlice; exact rfl; exact rfl; exact rfl; exact rfl; exact rfl; intro _ _))
        refine TC_cond_dec rfl (fun h2 => ?_) (fun h2 => ?_)
        · have hn : n = 1 := by omega
          repeat' (first | refine rn ?_ | (apply TL_box; exact rfl; exact rfl; exact rfl; intro _ _) | (apply TL_alloc; exact rfl; intro _ _) | (apply TL_buildSlice; exact rfl; exact rfl; exact rfl; exact rfl; exact rfl; intro _ _))
          apply TC_draw 9; kernel_rfl; exact Try.mixed
          · (refine' pv ?_; rotate_left)
            (refine' PG.val rfl rfl (by intro _X; refine TL_nilCheck rfl rfl ?_; exact qe) ?_; rotate_left)
            iterate 5 (refine' pv ?_; rotate_left)
            (refine' PG.val rfl rfl (by intro _X; refine TL_nilCheck rfl rfl ?_; exact qe) ?_; rotate_left)
            (refine' pv ?_; rotate_left)
            exact PG.nil
          change TL _ _ _ _ _ _ _ _ _ _ _
          repeat' (first | refine rn ?_ | (apply TL_box; exact rfl; exact rfl; exact rfl; intro _ _) | (apply TL_alloc; exact rfl; intro _ _) | (apply TL_buildSlice; exact rfl; exact rfl; exact rfl; exact rfl; exact rfl; intro _ _))
          apply TC_draw 9; kernel_rfl; exact Try.mixed
          · (refine' pv ?_; rotate_left)
            (refine' PG.val rfl rfl (by intro _X; refine TL_nilCheck rfl rfl ?_; exact qe) ?_; rotate_left)
            iterate 5 (refine' pv ?_; rotate_left)
            (refine' PG.val rfl rfl (by intro _X; refine TL_nilCheck rfl rfl ?_; exact qe) ?_; rotate_left)
            (refine' pv ?_; rotate_left)
            exact PG.nil
          change TL _ _ _ _ _ _ _ _ _ _ _
          repeat' (first | refine rn ?_ | (apply TL_box; exact rfl; exact rfl; exact rfl; intro _ _) | (apply TL_alloc; exact rfl; intro _ _) | (apply TL_buildSlice; exact rfl; exact rfl; exact rfl; exact rfl; exact rfl; intro _ _))
          refine TQ_round (k + 1) hlt (by omega) sb (fun w h => ?_)
          rw [hnext, decide_eq_true hn]; exact h
        · have hn : ¬ n = 1 := by omega
          repeat' (first | refine rn ?_ | (apply TL_box; exact rfl; exact rfl; exact rfl; intro _ _) | (apply TL_alloc; exact rfl; intro _ _) | (apply TL_buildSlice; exact rfl; exact rfl; exact rfl; exact rfl; exact rfl; intro _ _))
          apply TC_draw 9; kernel_rfl; exact Try.mixed
          · (refine' pv ?_; rotate_left)
            (refine' PG.val rfl rfl (by intro _X; refine TL_nilCheck rfl rfl ?_; exact qe) ?_; rotate_left)
            iterate 5 (refine' pv ?_; rotate_left)
            (refine' PG.val rfl rfl (by intro _X; refine TL_nilCheck rfl rfl ?_; exact qe) ?_; rotate_left)
            (refine' pv ?_; rotate_left)
            exact PG.nil
          change TL _ _ _ _ _ _ _ _ _ _ _
          repeat' (first | refine rn ?_ | (apply TL_box; exact rfl; exact rfl; exact rfl; intro _ _) | (apply TL_alloc; exact rfl; intro _ _) | (apply TL_buildSlice; exact rfl; exact rfl; exact rfl; exact rfl; exact rfl; intro _ _))
          refine TQ_round (k + 1) hlt (by omega) sb (fun w h => ?_)
          rw [hnext, decide_eq_false hn]; exact h
      · rw [hi] at hnext
        apply TC_draw 9; kernel_rfl; exact Try.mixed
        · (refine' pv ?_; rotate_left)
          (refine' PG.val rfl rfl (by intro _X; refine TL_indexAddrA 0 rfl rfl rfl rfl (by omega) ?_; exact qe) ?_; rotate_left)
          iterate 3 (refine' pv ?_; rotate_left)
          (refine' PG.val rfl rfl (by intro _X; refine TL_nilCheck rfl rfl ?_; exact qe) ?_; rotate_left)
          (refine' pv ?_; rotate_left)
          (refine' PG.val rfl rfl (by intro _X; refine TL_indexAddrA 2 rfl rfl rfl (by omega) (by omega) ?_; exact qe) ?_; rotate_left)
          (refine' pv ?_; rotate_left)
          exact PG.nil
        change TL _ _ _ _ _ _ _ _ _ _ _
        repeat' (first | refine rn ?_ | (apply TL_box; exact rfl; exact rfl; exact rfl; intro _ _) | (apply TL_alloc; exact rfl; intro _ _) | (apply TL_buildSlice; exact rfl; exact rfl; exact rfl; exact rfl; exact rfl; intro _ _))
        refine TC_cond_dec rfl (fun h2 => ?_) (fun h2 => ?_)
        · have hn : n = 1 := by omega
          repeat' (first | refine rn ?_ | (apply TL_box; exact rfl; exact rfl; exact rfl; intro _ _) | (apply TL_alloc; exact rfl; intro _ _) | (apply TL_buildSlice; exact rfl; exact rfl; exact rfl; exact rfl; exact rfl; intro _ _))
          apply TC_draw 9; kernel_rfl; exact Try.mixed
          · (refine' pv ?_; rotate_left)
            (refine' PG.val rfl rfl (by intro _X; refine TL_nilCheck rfl rfl ?_; exact qe) ?_; rotate_left)
            iterate 5 (refine' pv ?_; rotate_left)
            (refine' PG.val rfl rfl (by intro _X; refine TL_nilCheck rfl rfl ?_; exact qe) ?_; rotate_left)
            (refine' pv ?_; rotate_left)
            exact PG.nil
          change TL _ _ _ _ _ _ _ _ _ _ _
          repeat' (first | refine rn ?_ | (apply TL_box; exact rfl; exact rfl; exact rfl; intro _ _) | (apply TL_alloc; exact rfl; intro _ _) | (apply TL_buildSlice; exact rfl; exact rfl; exact rfl; exact rfl; exact rfl; intro _ _))
          apply TC_draw 9; kernel_rfl; exact Try.mixed
          · (refine' pv ?_; rotate_left)
            (refine' PG.val rfl rfl (by intro _X; refine TL_nilCheck rfl rfl ?_; exact qe) ?_; rotate_left)
            iterate 5 (refine' pv ?_; rotate_left)
            (refine' PG.val rfl rfl (by intro _X; refine TL_nilCheck rfl rfl ?_; exact qe) ?_; rotate_left)
            (refine' pv ?_; rotate_left)
            exact PG.nil
          change TL _ _ _ _ _ _ _ _ _ _ _
          repeat' (first | refine rn ?_ | (apply TL_box; exact rfl; exact rfl; exact rfl; intro _ _) | (apply TL_alloc; exact rfl; intro _ _) | (apply TL_buildSlice; exact rfl; exact rfl; exact rfl; exact rfl; exact rfl; intro _ _))
          refine TQ_round (k + 1) hlt (by omega) sb (fun w h => ?_)
          rw [hnext, decide_eq_true hn]; exact h
        · have hn : ¬ n = 1 := by omega
          repeat' (first | refine rn ?_ | (apply TL_box; exact rfl; exact rfl; exact rfl; intro _ _) | (apply TL_alloc; exact rfl; intro _ _) | (apply TL_buildSlice; exact rfl; exact rfl; exact rfl; exact rfl; exact rfl; intro _ _))
          apply TC_draw 9; kernel_rfl; exact Try.mixed
          · (refine' pv ?_; rotate_left)
            (refine' PG.val rfl rfl (by intro _X; refine TL_nilCheck rfl rfl ?_; exact qe) ?_; rotate_left)
            iterate 5 (refine' pv ?_; rotate_left)
            (refine' PG.val rfl rfl (by intro _X; refine TL_nilCheck rfl rfl ?_; exact qe) ?_; rotate_left)
            (refine' pv ?_; rotate_left)
            exact PG.nil
          change TL _ _ _ _ _ _ _ _ _ _ _
          repeat' (first | refine rn ?_ | (apply TL_box; exact rfl; exact rfl; exact rfl; intro _ _) | (apply TL_alloc; exact rfl; intro _ _) | (apply TL_buildSlice; exact rfl; exact rfl; exact rfl; exact rfl; exact rfl; intro _ _))
          refine TQ_round (k + 1) hlt (by omega) sb (fun w h => ?_)
          rw [hnext, decide_eq_false hn]; exact h
    · have hkn : k = n := by omega
      rw [hpick hkn]
      simp only [InS] at hwB
      subst hkn
      obtain ⟨w1, w2⟩ := hw
      have c95' := fun w h => c95 (someP f d) (some ⟨b4, 0 + 4 + 7 + a * 1, none⟩) (3 - a) (by omega) hne w h
      have c96' := fun w h => c96 (someP f d) (some ⟨b4, 0 + 4 + 7 + a * 1, none⟩) (3 - a) (by omega) hne w h
      rw [hdone] at c95' c96'
      have hsl : ∀ {w : World} {H : Hp}, SH B w0 w H → (b4, .cells (encTr f b ao c) 110) ∈ H → Sl w 1 encI (some ⟨b4, 0 + 4 + 7 + a * 1, none⟩) (someP f d) := fun h hm => by
        have := Sl.prices h hm a k (by omega)
        unfold someP
        rwa [e5, e6]
      have c82' := fun ao c w ha => c82_2 yk.worth (minL (someP f d) * left.1, maxL (someP f d) * left.2) ao c w ha ⟨by simp only [Small]; omega, by simp only [Small]; omega⟩ ⟨by simp only [Small]; omega, by simp only [Small]; omega⟩
      repeat' (first | refine rn ?_ | (apply TL_box; exact rfl; exact rfl; exact rfl; intro _ _) | (apply TL_alloc; exact rfl; intro _ _) | (apply TL_buildSlice; exact rfl; exact rfl; exact rfl; exact rfl; exact rfl; intro _ _))
      apply TC_draw 20; kernel_rfl; exact Try.mixed
      · iterate 2 (refine' pv ?_; rotate_left)
        (refine' PG.val rfl rfl (by intro _X; refine TL_nilCheck rfl rfl ?_; exact qe) ?_; rotate_left)
        iterate 3 (refine' pv ?_; rotate_left)
        (refine' PG.val rfl rfl (by intro _X; refine TL_callV rfl rfl rfl (fun w h => c95' w (hsl h mm)) ?_; exact qe) ?_; rotate_left)
        iterate 4 (refine' pv ?_; rotate_left)
        (refine' PG.val rfl rfl (by intro _X; refine TL_callV rfl rfl rfl (fun w h => c96' w (hsl h mm)) ?_; exact qe) ?_; rotate_left)
        iterate 4 (refine' pv ?_; rotate_left)
        (refine' PG.rel ((fun v h => ∃ b, v = .slice (some ⟨b, 0, none⟩) 2 2 ∧ h = [(b, .cells (encSp yk.worth ++ [.int .i64 (minL (someP f d) * left.1), .int .i64 (maxL (someP f d) * left.2)]) 23)])) rfl rfl (by intro _X; apply TL_buildSlice; exact rfl; exact rfl; exact rfl; exact rfl; exact rfl; intro b _; exact TL_nil (TQ_QR (h := [(b, _)]) rfl ⟨b, rfl, rfl⟩ (fun _ h => h))) ?_; rotate_left)
        (refine' PG.val rfl rfl (by rintro _ _ ⟨b16, rfl, rfl⟩ _X; refine TL_callV rfl rfl rfl (fun w h => c82' _ _ w (Sl.of_blk h mm (fun _ _ => rfl) ⟨[], rfl⟩)) ?_; exact qe) ?_; rotate_left)
        (refine' PG.val rfl rfl (by intro _X; refine TL_nilCheck rfl rfl ?_; exact qe) ?_; rotate_left)
        (refine' pv ?_; rotate_left)
        exact PG.nil
      rintro _ _ ⟨b16, rfl, rfl⟩
      change TL _ _ _ _ _ _ _ _ _ _ _
      repeat' (first | refine rn ?_ | (apply TL_box; exact rfl; exact rfl; exact rfl; intro _ _) | (apply TL_alloc; exact rfl; intro _ _) | (apply TL_buildSlice; exact rfl; exact rfl; exact rfl; exact rfl; exact rfl; intro _ _))
      exact TQ_end0 Try.results80 (fun w' hs => ⟨(), trivial, rfl, hs.sub (by repeat (first | exact List.Sublist.refl _ | apply List.Sublist.cons))⟩)
end Go.Proofs.Ytccgplomnjpniaa
