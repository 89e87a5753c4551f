/- The walk of the statement DateMore. -/
import Derived.Test.YtccgplomnjpniaaE35
namespace Go.Proofs.Ytccgplomnjpniaa
open Go Go.Eng Go.RowKit Go.Proofs
set_option maxHeartbeats 4000000
set_option maxRecDepth 10000
attribute [local irreducible] TL TC TQ

def netB (b : Bn) : Bn := ⟨b.ripe, b.birds, true⟩
theorem net_les {f : Ft} {b : Bn} (l : List Int) (hf : OkFt f) (hb : OkBn b) : YLes (cutR f b l) (cutR f (netB b) l) ∧ (cutR f (netB b) l).taken = (0, 0) := by
  have hn : b.ripe.length ≤ 12 := by have := hb.1; simp only [In] at this; omega
  refine ⟨cutR_les l hf hn rfl (fun i x y d hd hx hy => ?_), cut_net hf (b := netB b) hb rfl _ (Nat.le_refl _)⟩
  have : y = x := by
    have hy' : b.ripe[i]? = some y := hy
    rw [hx] at hy'; cases hy'; rfl
  subst this
  have h1 := bLo_hi hb hd
  have e1 : bLo (netB b) d = 0 := if_pos rfl
  have e2 : bHi (netB b) d = 0 := if_pos rfl
  simp only [Les, leftR, e1, e2]
  omega
def plusM (s : Sp) (m : Int) : Sp := (s.1 + m % (100000 - s.2 + 1), s.2 + m % (100000 - s.2 + 1))
theorem plusM_rg {s : Sp} {m : Int} (hs : Ord s 0 100000) (hm : 0 ≤ m) : Ord (plusM s m) 0 100000 ∧ (0 ≤ m % (100000 - s.2 + 1) ∧ m % (100000 - s.2 + 1) ≤ 100000 - s.2) := by
  simp only [Ord] at hs
  have h1 := Int.emod_nonneg m (show 100000 - s.2 + 1 ≠ 0 by omega)
  have h2 := Int.emod_lt_of_pos m (show 0 < 100000 - s.2 + 1 by omega)
  simp only [Ord, plusM]
  omega
def moreB (b : Bn) (i : Nat) (s : Sp) : Bn := ⟨b.ripe.set i s, b.birds, b.cov⟩
theorem more_les {f : Ft} {b : Bn} (l : List Int) (hf : OkFt f) (hb : OkBn b) {i : Nat} {x : Sp} (hx : b.ripe[i]? = some x) {m : Int} (hm : 0 ≤ m) : OkBn (moreB b i (plusM x m)) ∧ YLes (cutR f b l) (cutR f (moreB b i (plusM x m)) l) := by
  have hn : b.ripe.length ≤ 12 := by have := hb.1; simp only [In] at this; omega
  have hox := hb.2.1 x (List.mem_of_getElem? hx)
  have hr := plusM_rg hox hm
  refine ⟨⟨by simp only [moreB, List.length_set]; exact hb.1, fun s hs => ?_, hb.2.2⟩, cutR_les l hf hn (by simp [moreB]) (fun j u v d hd hu hv => ?_)⟩
  · rcases List.mem_or_eq_of_mem_set hs with h | rfl
    · exact hb.2.1 s h
    · exact hr.1
  · have hv' : (b.ripe.set i (plusM x m))[j]? = some v := hv
    have : Les u v := by
      rw [List.getElem?_set] at hv'
      split at hv'
      · rename_i hij
        subst hij
        split at hv'
        · cases hv'
          rw [hx] at hu; cases hu
          simp only [Les, plusM]; omega
        · cases hv'
      · rw [hu] at hv'; cases hv'; exact ⟨Int.le_refl _, Int.le_refl _⟩
    have e1 : bLo (moreB b i (plusM x m)) d = bLo b d := rfl
    have e2 : bHi (moreB b i (plusM x m)) d = bHi b d := rfl
    simp only [Les, leftR, e1, e2] at this ⊢
    omega
theorem best_more {f : Ft} {b : Bn} (hf : OkFt f) (hb : OkBn b) {most : Int} (h : In most 0 11) {l l' : List Int} {n n' : Int} (h1 : bestR f b most = (l, n, 0)) (h2 : bestR f b (most + 1) = (l', n', 0)) : n ≤ n' := by
  simp only [In] at h
  obtain ⟨l1, n1, e1, e2, e3, e4, _⟩ := best_top hf hb (most := most) ⟨by omega, by omega⟩
  obtain ⟨l2, n2, d1, d2, d3, d4, d5⟩ := best_top hf hb (most := most + 1) ⟨by omega, by omega⟩
  rw [h1] at e1; cases e1
  rw [h2] at d1; cases d1
  have := d5 l e3 (by omega)
  rw [e2]
  rcases this with h | h <;> omega
theorem c10 (f : Ft) (b : Bn) (ao : Option Addr) (c : Nat) (most : Int) (l : List Int) (lo : Option Addr) (lc : Nat) (dd m : Int) (hdd : 0 ≤ dd ∧ dd ≤ 255) (hm : 0 ≤ m ∧ m ≤ 65535) (hl : b.ripe.length ≤ 9223372036854775807) (hl2 : l.length ≤ 9223372036854775807)
    (w : World) (ha : Sl w 2 encSp ao b.ripe) (hal : Sl w 1 encI lo l) :
    Calls Try.prog 10 #[.agg (encFt f).toArray, .agg (encBn b ao c).toArray, .int .i64 most, .slice lo l.length lc, .int .u8 dd, .int .u16 m] w (RetV w (.bool true)) := by
  refine enter (args := [.agg (encFt f).toArray, .agg (encBn b ao c).toArray, .int .i64 most, .slice lo l.length lc, .int .u8 dd, .int .u16 m]) Try.func10 rfl Try.ntmps10 rfl (SH.refl _) ?_
  repeat' (first | refine rn ?_ | (apply TL_box; exact rfl; exact rfl; exact rfl; intro _ _) | (apply TL_alloc; exact rfl; intro _ _) | (apply TL_buildSlice; exact rfl; exact rfl; exact rfl; exact rfl; exact rfl; intro _ _))
  rename_i b6 _ b7 _
  refine TL_callV rfl rfl rfl (fun w _ => c31 w) ?_
  repeat' (first | refine rn ?_ | (apply TL_box; exact rfl; exact rfl; exact rfl; intro _ _) | (apply TL_alloc; exact rfl; intro _ _) | (apply TL_buildSlice; exact rfl; exact rfl; exact rfl; exact rfl; exact rfl; intro _ _))
  refine TL_callV rfl rfl rfl (fun w h => c36 f b ao c l lo lc hl hl2 w (h.sl ha) (h.sl hal)) ?_
  repeat' (first | refine rn ?_ | (apply TL_box; exact rfl; exact rfl; exact rfl; intro _ _) | (apply TL_alloc; exact rfl; intro _ _) | (apply TL_buildSlice; exact rfl; exact rfl; exact rfl; exact rfl; exact rfl; intro _ _))
  refine TL_gsplit_dec rfl rfl (fun g1 => ?_) (fun g1 => ?_)
  · repeat' (first | refine rn ?_ | (apply TL_box; exact rfl; exact rfl; exact rfl; intro _ _) | (apply TL_alloc; exact rfl; intro _ _) | (apply TL_buildSlice; exact rfl; exact rfl; exact rfl; exact rfl; exact rfl; intro _ _))
    exact TQ_ret1 Try.results10 (RV.tmp rfl) (fun w' hs => ⟨rfl, hs.below⟩)
  repeat' (first | refine rn ?_ | (apply TL_box; exact rfl; exact rfl; exact rfl; intro _ _) | (apply TL_alloc; exact rfl; intro _ _) | (apply TL_buildSlice; exact rfl; exact rfl; exact rfl; exact rfl; exact rfl; intro _ _))
  refine TL_gsplit_dec rfl rfl (fun g2 => ?_) (fun g2 => ?_)
  · repeat' (first | refine rn ?_ | (apply TL_box; exact rfl; exact rfl; exact rfl; intro _ _) | (apply TL_alloc; exact rfl; intro _ _) | (apply TL_buildSlice; exact rfl; exact rfl; exact rfl; exact rfl; exact rfl; intro _ _))
    exact TQ_ret1 Try.results10 (RV.tmp rfl) (fun w' hs => ⟨rfl, hs.below⟩)
  repeat' (first | refine rn ?_ | (apply TL_box; exact rfl; exact rfl; exact rfl; intro _ _) | (apply TL_alloc; exact rfl; intro _ _) | (apply TL_buildSlice; exact rfl; exact rfl; exact rfl; exact rfl; exact rfl; intro _ _))
  refine TL_gsplit_dec rfl rfl (fun g3 => ?_) (fun g3 => ?_)
  · repeat' (first | refine rn ?_ | (apply TL_box; exact rfl; exact rfl; exact rfl; intro _ _) | (apply TL_alloc; exact rfl; intro _ _) | (apply TL_buildSlice; exact rfl; exact rfl; exact rfl; exact rfl; exact rfl; intro _ _))
    exact TQ_ret1 Try.results10 (RV.tmp rfl) (fun w' hs => ⟨rfl, hs.below⟩)
  have hrdy : Rdy f b l := Classical.not_not.1 g1
  obtain ⟨⟨r1', r2'⟩, hchk, hcut⟩ := hrdy
  obtain ⟨hf, hbn⟩ := checkR_ok hchk
  have hlen := hbn.1
  simp only [In] at hlen
  have hbm : In most 0 11 := ⟨by omega, by omega⟩
  obtain ⟨l1, n1, hb1, _⟩ := best_top hf hbn (most := most) ⟨by omega, by omega⟩
  obtain ⟨l2, n2, hb2, _⟩ := best_top hf hbn (most := most + 1) ⟨by omega, by omega⟩
  have hnn := best_more hf hbn hbm hb1 hb2
  have c29a := fun w h => c29 f b ao c most (by omega) w h
  rw [hb1] at c29a
  have c29b := fun w h => c29 f b ao c (most + 1) (by omega) w h
  rw [hb2] at c29b
  have c23y := fun w h1 h2 => c23 f b ao c l lo lc (by omega) (by omega) w h1 h2
  rw [cutF_ok hchk hcut] at c23y
  have hnet : OkBn (netB b) := hbn
  have c23z := fun so sc w h1 h2 => c23 f (netB b) so sc l lo lc (show b.ripe.length ≤ 1000000 by omega) (by omega) w h1 h2
  rw [cutF_ok (check_of hf hnet) hcut] at c23z
  obtain ⟨hnl, hnt⟩ := net_les l hf hbn
  repeat' (first | refine rn ?_ | (apply TL_box; exact rfl; exact rfl; exact rfl; intro _ _) | (apply TL_alloc; exact rfl; intro _ _) | (apply TL_buildSlice; exact rfl; exact rfl; exact rfl; exact rfl; exact rfl; intro _ _))
  refine TL_callN rfl rfl rfl (fun w h => c29a w (h.sl ha)) ?_
  rintro ⟨so1, sc1, ob1⟩ -
  dsimp only
  repeat' (first | refine rn ?_ | (apply TL_box; exact rfl; exact rfl; exact rfl; intro _ _) | (apply TL_alloc; exact rfl; intro _ _) | (apply TL_buildSlice; exact rfl; exact rfl; exact rfl; exact rfl; exact rfl; intro _ _))
  refine TL_callN rfl rfl rfl (fun w h => c29b w (h.sl ha)) ?_
  rintro ⟨so2, sc2, ob2⟩ -
  dsimp only
  repeat' (first | refine rn ?_ | (apply TL_box; exact rfl; exact rfl; exact rfl; intro _ _) | (apply TL_alloc; exact rfl; intro _ _) | (apply TL_buildSlice; exact rfl; exact rfl; exact rfl; exact rfl; exact rfl; intro _ _))
  refine TL_callV rfl rfl rfl (fun w h => c23y w (h.sl ha) (h.sl hal)) ?_
  repeat' (first | refine rn ?_ | (apply TL_box; exact rfl; exact rfl; exact rfl; intro _ _) | (apply TL_alloc; exact rfl; intro _ _) | (apply TL_buildSlice; exact rfl; exact rfl; exact rfl; exact rfl; exact rfl; intro _ _))
  refine TL_callN rfl rfl rfl (fun w h => c20 b ao c (by omega) w (h.sl ha)) ?_
  rintro ⟨so3, sc3, ob3⟩ hrow3
  dsimp only
  generalize hY : cutR f b l = y at c23y hnl
  generalize cutR f (netB b) l = z at c23z hnl hnt
  obtain ⟨z0, z1, z2, zt, zf, zl, zw⟩ := z
  dsimp only at hnt
  subst hnt
  obtain ⟨hl0, hl1, hl2', hl3, hl4, hl5⟩ := hnl
  simp only [Les] at hl0 hl1 hl2' hl3 hl4 hl5
  repeat' (first | refine rn ?_ | (apply TL_box; exact rfl; exact rfl; exact rfl; intro _ _) | (apply TL_alloc; exact rfl; intro _ _) | (apply TL_buildSlice; exact rfl; exact rfl; exact rfl; exact rfl; exact rfl; intro _ _))
  refine TL_callV rfl rfl rfl (fun w h => c23z so3 sc3 w (hrow3.sl h (fun p hp => List.mem_cons_of_mem _ (List.mem_append_left _ hp))) (h.sl hal)) ?_
  repeat' (first | refine rn ?_ | (apply TL_box; exact rfl; exact rfl; exact rfl; intro _ _) | (apply TL_alloc; exact rfl; intro _ _) | (apply TL_buildSlice; exact rfl; exact rfl; exact rfl; exact rfl; exact rfl; intro _ _))
  apply TC_draw 61; kernel_rfl; exact Try.mixed
  · (refine' pv ?_; rotate_left)
    (refine' PG.val rfl rfl (by intro _X; refine TL_neq_f rfl rfl rfl (by omega) ?_; exact qe) ?_; rotate_left)
    (refine' pv ?_; rotate_left)
    (refine' pg ?_; rotate_left)
    (refine' PG.val rfl rfl (by intro _X; (refine TL_guard_yes rfl rfl rfl ?_); refine TL_neq_f rfl rfl rfl (by omega) ?_; exact qe) ?_; rotate_left)
    iterate 2 (refine' pv ?_; rotate_left)
    (refine' pg ?_; rotate_left)
    (refine' PG.val rfl rfl (by intro _X; (refine TL_guard_yes rfl rfl rfl ?_); refine TL_neq_f rfl rfl rfl (by omega) ?_; exact qe) ?_; rotate_left)
    iterate 2 (refine' pv ?_; rotate_left)
    (refine' pg ?_; rotate_left)
    (refine' PG.val rfl rfl (by intro _X; (refine TL_guard_yes rfl rfl rfl ?_); refine TL_neq_f rfl rfl rfl (by omega) ?_; exact qe) ?_; rotate_left)
    iterate 2 (refine' pv ?_; rotate_left)
    iterate 2 (refine' pg ?_; rotate_left)
    (refine' PG.val rfl rfl (by intro _X; (refine TL_guard_yes rfl rfl rfl ?_); refine TL_lss_f rfl rfl rfl (by first | omega | (dsimp only; omega)) ?_; exact qe) ?_; rotate_left)
    iterate 2 (refine' pv ?_; rotate_left)
    iterate 2 (refine' pg ?_; rotate_left)
    (refine' PG.val rfl rfl (by intro _X; (refine TL_guard_yes rfl rfl rfl ?_); refine TL_callV rfl rfl rfl (fun w _ => c34 0 0 w) ?_; exact qe) ?_; rotate_left)
    (refine' PG.val rfl rfl (by intro _X; (refine TL_guard_yes rfl rfl rfl ?_); refine TL_neqS_same rfl rfl rfl rfl rfl rfl rfl ?_; exact qe) ?_; rotate_left)
    iterate 2 (refine' pv ?_; rotate_left)
    iterate 6 (refine' pg ?_; rotate_left)
    (refine' PG.val rfl rfl (by intro _X; (refine TL_guard_yes rfl rfl rfl ?_); refine TL_lss_f rfl rfl rfl (by first | omega | (dsimp only; omega)) ?_; exact qe) ?_; rotate_left)
    iterate 2 (refine' pv ?_; rotate_left)
    iterate 6 (refine' pg ?_; rotate_left)
    (refine' PG.val rfl rfl (by intro _X; (refine TL_guard_yes rfl rfl rfl ?_); refine TL_lss_f rfl rfl rfl (by first | omega | (dsimp only; omega)) ?_; exact qe) ?_; rotate_left)
    iterate 2 (refine' pv ?_; rotate_left)
    iterate 6 (refine' pg ?_; rotate_left)
    (refine' PG.val rfl rfl (by intro _X; (refine TL_guard_yes rfl rfl rfl ?_); refine TL_lss_f rfl rfl rfl (by first | omega | (dsimp only; omega)) ?_; exact qe) ?_; rotate_left)
    iterate 2 (refine' pv ?_; rotate_left)
    iterate 6 (refine' pg ?_; rotate_left)
    (refine' PG.val rfl rfl (by intro _X; (refine TL_guard_yes rfl rfl rfl ?_); refine TL_lss_f rfl rfl rfl (by first | omega | (dsimp only; omega)) ?_; exact qe) ?_; rotate_left)
    (refine' pv ?_; rotate_left)
    exact PG.nil
  change TL _ _ _ _ _ _ _ _ _ _ _
  repeat' (first | refine rn ?_ | (apply TL_box; exact rfl; exact rfl; exact rfl; intro _ _) | (apply TL_alloc; exact rfl; intro _ _) | (apply TL_buildSlice; exact rfl; exact rfl; exact rfl; exact rfl; exact rfl; intro _ _))
  rename_i by_ _ bn _ bz _
  refine TC_loop (σ := Nat) (fun k => k ≤ 3) (fun k => [(3, .slice lo l.length lc), (4, .int .u8 dd), (5, .int .u16 m), (6, .pointer (some ⟨b6, 0, none⟩)), (7, .pointer (some ⟨b7, 0, none⟩)), (13, .bool true), (20, .pointer (some ⟨by_, 0, none⟩)), (23, .pointer (some ⟨bz, 0, none⟩)), (145, .int .i64 k)])
    (fun _ => [(bz, .cells (encYd ⟨z0, z1, z2, (0, 0), zf, zl, zw⟩) 55), (by_, .cells (encYd y) 55), (b7, .cells (encBn b ao c) 46), (b6, .cells (encFt f) 43)]) (fun k => 3 - k) 0 (by omega) sb (fun w h => ?_) (fun k hk => ?_)
  · refine h.sub ?_
    repeat (first | exact List.Sublist.refl _ | apply List.Sublist.cons_cons | apply List.Sublist.cons | refine List.Sublist.trans ?_ (List.sublist_append_right _ _))
  have hk4 : k = 0 ∨ k = 1 ∨ k = 2 ∨ k = 3 := by omega
  rcases hk4 with rfl | rfl | rfl | rfl
  · repeat' (first | refine rn ?_ | (apply TL_box; exact rfl; exact rfl; exact rfl; intro _ _) | (apply TL_alloc; exact rfl; intro _ _) | (apply TL_buildSlice; exact rfl; exact rfl; exact rfl; exact rfl; exact rfl; intro _ _))
    apply TC_draw 24; kernel_rfl; exact Try.mixed
    · iterate 2 (refine' pv ?_; rotate_left)
      (refine' PG.val rfl rfl (by intro _X; refine TL_indexAddrA 0 rfl rfl rfl rfl (by omega) ?_; exact qe) ?_; rotate_left)
      iterate 4 (refine' pv ?_; rotate_left)
      (refine' PG.val rfl rfl (by intro _X; refine TL_indexAddrA 0 rfl rfl rfl rfl (by omega) ?_; exact qe) ?_; rotate_left)
      iterate 2 (refine' pv ?_; rotate_left)
      (refine' PG.val rfl rfl (by intro _X; refine TL_lss_f rfl rfl rfl (by first | omega | (dsimp only; omega)) ?_; exact qe) ?_; rotate_left)
      (refine' pv ?_; rotate_left)
      iterate 2 (refine' pg ?_; rotate_left)
      (refine' PG.val rfl rfl (by intro _X; (refine TL_guard_yes rfl rfl rfl ?_); refine TL_indexAddrA 0 rfl rfl rfl rfl (by omega) ?_; exact qe) ?_; rotate_left)
      iterate 4 (refine' pg ?_; rotate_left)
      (refine' PG.val rfl rfl (by intro _X; (refine TL_guard_yes rfl rfl rfl ?_); refine TL_indexAddrA 0 rfl rfl rfl rfl (by omega) ?_; exact qe) ?_; rotate_left)
      iterate 2 (refine' pg ?_; rotate_left)
      (refine' PG.val rfl rfl (by intro _X; (refine TL_guard_yes rfl rfl rfl ?_); refine TL_lss_f rfl rfl rfl (by first | omega | (dsimp only; omega)) ?_; exact qe) ?_; rotate_left)
      (refine' pv ?_; rotate_left)
      exact PG.nil
    change TL _ _ _ _ _ _ _ _ _ _ _
    repeat' (first | refine rn ?_ | (apply TL_box; exact rfl; exact rfl; exact rfl; intro _ _) | (apply TL_alloc; exact rfl; intro _ _) | (apply TL_buildSlice; exact rfl; exact rfl; exact rfl; exact rfl; exact rfl; intro _ _))
    refine TQ_round (0 + 1) (by omega) (by omega) sb (fun w h => h)
  · repeat' (first | refine rn ?_ | (apply TL_box; exact rfl; exact rfl; exact rfl; intro _ _) | (apply TL_alloc; exact rfl; intro _ _) | (apply TL_buildSlice; exact rfl; exact rfl; exact rfl; exact rfl; exact rfl; intro _ _))
    apply TC_draw 24; kernel_rfl; exact Try.mixed
    · iterate 2 (refine' pv ?_; rotate_left)
      (refine' PG.val rfl rfl (by intro _X; refine TL_indexAddrA 1 rfl rfl rfl rfl (by omega) ?_; exact qe) ?_; rotate_left)
      iterate 4 (refine' pv ?_; rotate_left)
      (refine' PG.val rfl rfl (by intro _X; refine TL_indexAddrA 1 rfl rfl rfl rfl (by omega) ?_; exact qe) ?_; rotate_left)
      iterate 2 (refine' pv ?_; rotate_left)
      (refine' PG.val rfl rfl (by intro _X; refine TL_lss_f rfl rfl rfl (by first | omega | (dsimp only; omega)) ?_; exact qe) ?_; rotate_left)
      (refine' pv ?_; rotate_left)
      iterate 2 (refine' pg ?_; rotate_left)
      (refine' PG.val rfl rfl (by intro _X; (refine TL_guard_yes rfl rfl rfl ?_); refine TL_indexAddrA 1 rfl rfl rfl rfl (by omega) ?_; exact qe) ?_; rotate_left)
      iterate 4 (refine' pg ?_; rotate_left)
      (refine' PG.val rfl rfl (by intro _X; (refine TL_guard_yes rfl rfl rfl ?_); refine TL_indexAddrA 1 rfl rfl rfl rfl (by omega) ?_; exact qe) ?_; rotate_left)
      iterate 2 (refine' pg ?_; rotate_left)
      (refine' PG.val rfl rfl (by intro _X; (refine TL_guard_yes rfl rfl rfl ?_); refine TL_lss_f rfl rfl rfl (by first | omega | (dsimp only; omega)) ?_; exact qe) ?_; rotate_left)
      (refine' pv ?_; rotate_left)
      exact PG.nil
    change TL _ _ _ _ _ _ _ _ _ _ _
    repeat' (first | refine rn ?_ | (apply TL_box; exact rfl; exact rfl; exact rfl; intro _ _) | (apply TL_alloc; exact rfl; intro _ _) | (apply TL_buildSlice; exact rfl; exact rfl; exact rfl; exact rfl; exact rfl; intro _ _))
    refine TQ_round (1 + 1) (by omega) (by omega) sb (fun w h => h)
  · repeat' (first | refine rn ?_ | (apply TL_box; exact rfl; exact rfl; exact rfl; intro _ _) | (apply TL_alloc; exact rfl; intro _ _) | (apply TL_buildSlice; exact rfl; exact rfl; exact rfl; exact rfl; exact rfl; intro _ _))
    apply TC_draw 24; kernel_rfl; exact Try.mixed
    · iterate 2 (refine' pv ?_; rotate_left)
      (refine' PG.val rfl rfl (by intro _X; refine TL_indexAddrA 2 rfl rfl rfl rfl (by omega) ?_; exact qe) ?_; rotate_left)
      iterate 4 (refine' pv ?_; rotate_left)
      (refine' PG.val rfl rfl (by intro _X; refine TL_indexAddrA 2 rfl rfl rfl rfl (by omega) ?_; exact qe) ?_; rotate_left)
      iterate 2 (refine' pv ?_; rotate_left)
      (refine' PG.val rfl rfl (by intro _X; refine TL_lss_f rfl rfl rfl (by first | omega | (dsimp only; omega)) ?_; exact qe) ?_; rotate_left)
      (refine' pv ?_; rotate_left)
      iterate 2 (refine' pg ?_; rotate_left)
      (refine' PG.val rfl rfl (by intro _X; (refine TL_guard_yes rfl rfl rfl ?_); refine TL_indexAddrA 2 rfl rfl rfl rfl (by omega) ?_; exact qe) ?_; rotate_left)
      iterate 4 (refine' pg ?_; rotate_left)
      (refine' PG.val rfl rfl (by intro _X; (refine TL_guard_yes rfl rfl rfl ?_); refine TL_indexAddrA 2 rfl rfl rfl rfl (by omega) ?_; exact qe) ?_; rotate_left)
      iterate 2 (refine' pg ?_; rotate_left)
      (refine' PG.val rfl rfl (by intro _X; (refine TL_guard_yes rfl rfl rfl ?_); refine TL_lss_f rfl rfl rfl (by first | omega | (dsimp only; omega)) ?_; exact qe) ?_; rotate_left)
      (refine' pv ?_; rotate_left)
      exact PG.nil
    change TL _ _ _ _ _ _ _ _ _ _ _
    repeat' (first | refine rn ?_ | (apply TL_box; exact rfl; exact rfl; exact rfl; intro _ _) | (apply TL_alloc; exact rfl; intro _ _) | (apply TL_buildSlice; exact rfl; exact rfl; exact rfl; exact rfl; exact rfl; intro _ _))
    refine TQ_round (2 + 1) (by omega) (by omega) sb (fun w h => h)
  · repeat' (first | refine rn ?_ | (apply TL_box; exact rfl; exact rfl; exact rfl; intro _ _) | (apply TL_alloc; exact rfl; intro _ _) | (apply TL_buildSlice; exact rfl; exact rfl; exact rfl; exact rfl; exact rfl; intro _ _))
    refine TL_callN rfl rfl rfl (fun w h => c20 b ao c (by omega) w (h.sl ha)) ?_
    rintro ⟨so4, sc4, ob4⟩ hrow4
    dsimp only
    have hi1 := Int.emod_nonneg dd (show (b.ripe.length : Int) ≠ 0 by omega)
    have hi2 := Int.emod_lt_of_pos dd (show (0 : Int) < (b.ripe.length : Int) by omega)
    obtain ⟨i, hi⟩ : ∃ i : Nat, dd % (b.ripe.length : Int) = (i : Int) := ⟨(dd % (b.ripe.length : Int)).toNat, by omega⟩
    have hlt : i < b.ripe.length := by omega
    obtain ⟨x, hx⟩ : ∃ x, b.ripe[i]? = some x := ⟨_, List.getElem?_eq_getElem hlt⟩
    have hox := hbn.2.1 x (List.mem_of_getElem? hx)
    obtain ⟨hmb, hml⟩ := more_les l hf hbn hx hm.1
    have hmod := (plusM_rg hox hm.1).2
    simp only [Ord] at hox
    have hne : b.ripe ≠ [] := by intro h; rw [h] at hx; cases hx
    have c23x := fun so sc w h1 h2 => c23 f (moreB b i (plusM x m)) so sc l lo lc (by simp only [moreB, List.length_set]; omega) (by omega) w h1 h2
    rw [cutF_ok (check_of hf hmb) (by simp only [moreB, List.length_set]; exact hcut)] at c23x
    have eM : ∀ so sc, encBn (moreB b i (plusM x m)) so sc = encBn b so sc := fun so sc => by simp only [encBn, moreB, List.length_set]
    simp only [eM] at c23x
    have hmw := hml.worth
    rw [hY] at hmw
    generalize cutR f (moreB b i (plusM x m)) l = x4 at c23x hmw
    simp only [Les] at hmw
    repeat' (first | refine rn ?_ | (apply TL_box; exact rfl; exact rfl; exact rfl; intro _ _) | (apply TL_alloc; exact rfl; intro _ _) | (apply TL_buildSlice; exact rfl; exact rfl; exact rfl; exact rfl; exact rfl; intro _ _))
    rename_i b26 _
    apply TC_draw 9; kernel_rfl; exact Try.mixed
    · iterate 3 (refine' pv ?_; rotate_left)
      (refine' PG.val rfl rfl (by intro _X; refine TL_conv_same rfl rfl (wrap_i64_nn hdd.1 (by omega)) ?_; exact qe) ?_; rotate_left)
      iterate 4 (refine' pv ?_; rotate_left)
      (refine' PG.val rfl rfl (by intro _X; refine TL_index i rfl rfl rfl (fun w h => hrow4.sl h (fun p hp => by repeat (first | exact List.mem_append_left _ hp | apply List.mem_append_right | apply List.mem_cons_of_mem))) hi (by omega) (Nat.le_refl _) ?_; exact qe) ?_; rotate_left)
      exact PG.nil
    change TL _ _ _ _ _ _ _ _ _ _ _
    repeat' (first | (refine TL_conv_same rfl rfl (wrap_i64_nn hm.1 (by omega)) ?_) | refine r1 ?_ | (apply TL_box; exact rfl; exact rfl; exact rfl; intro _ _) | (apply TL_alloc; exact rfl; intro _ _) | (apply TL_buildSlice; exact rfl; exact rfl; exact rfl; exact rfl; exact rfl; intro _ _))
    refine TL_nilCheck rfl rfl ?_
    refine TL_fieldAddr_el rfl rfl (fun w h => hrow4.sl h (fun p hp => by repeat (first | exact List.mem_append_left _ hp | apply List.mem_append_right | apply List.mem_cons_of_mem))) hne ?_
    refine TL_load_el1 (u := x) rfl rfl (fun w h => hrow4.sl h (fun p hp => by repeat (first | exact List.mem_append_left _ hp | apply List.mem_append_right | apply List.mem_cons_of_mem))) hx rfl ?_
    repeat' (first | refine rn ?_ | (apply TL_box; exact rfl; exact rfl; exact rfl; intro _ _) | (apply TL_alloc; exact rfl; intro _ _) | (apply TL_buildSlice; exact rfl; exact rfl; exact rfl; exact rfl; exact rfl; intro _ _))
    apply TC_draw 14; kernel_rfl; exact Try.mixed
    · iterate 2 (refine' pv ?_; rotate_left)
      (refine' PG.val rfl rfl (by intro _X; refine TL_nilCheck rfl rfl ?_; exact qe) ?_; rotate_left)
      (refine' PG.val rfl rfl (by intro _X; refine TL_fieldAddr_el rfl rfl (fun w h => hrow4.sl h (fun p hp => by repeat (first | exact List.mem_append_left _ hp | apply List.mem_append_right | apply List.mem_cons_of_mem))) hne ?_; exact qe) ?_; rotate_left)
      (refine' PG.val rfl rfl (by intro _X; refine TL_load_el1 (u := x) rfl rfl (fun w h => hrow4.sl h (fun p hp => by repeat (first | exact List.mem_append_left _ hp | apply List.mem_append_right | apply List.mem_cons_of_mem))) hx rfl ?_; exact qe) ?_; rotate_left)
      iterate 3 (refine' pv ?_; rotate_left)
      (refine' PG.val rfl rfl (by intro _X; refine TL_nilCheck rfl rfl ?_; exact qe) ?_; rotate_left)
      (refine' PG.val rfl rfl (by intro _X; refine TL_fieldAddr_el rfl rfl (fun w h => hrow4.sl h (fun p hp => by repeat (first | exact List.mem_append_left _ hp | apply List.mem_append_right | apply List.mem_cons_of_mem))) hne ?_; exact qe) ?_; rotate_left)
      (refine' PG.val rfl rfl (by intro _X; refine TL_load_el1 (u := x) rfl rfl (fun w h => hrow4.sl h (fun p hp => by repeat (first | exact List.mem_append_left _ hp | apply List.mem_append_right | apply List.mem_cons_of_mem))) hx rfl ?_; exact qe) ?_; rotate_left)
      iterate 2 (refine' pv ?_; rotate_left)
      (refine' PG.val rfl rfl (by intro _X; refine TL_callV rfl rfl rfl (fun w _ => c34 (x.1 + m % (100000 - x.2 + 1)) (x.2 + m % (100000 - x.2 + 1)) w) ?_; exact qe) ?_; rotate_left)
      exact PG.nil
    change TL _ _ _ _ _ _ _ _ _ _ _
    refine TL_nilCheck rfl rfl ?_
    refine TL_store_el (u := x) (u' := plusM x m) (f := fun z' => (b26, .cells (encBn b so4 sc4) 46) :: (z' ++ ([(bz, .cells (encYd ⟨z0, z1, z2, (0, 0), zf, zl, zw⟩) 55), (by_, .cells (encYd y) 55), (b7, .cells (encBn b ao c) 46), (b6, .cells (encFt f) 43)] : Hp))) hrow4 rfl rfl rfl rfl rfl rfl hx rfl rfl (fun b x y => up) (fun ob' hr => ?_)
    repeat' (first | refine rn ?_ | (apply TL_box; exact rfl; exact rfl; exact rfl; intro _ _) | (apply TL_alloc; exact rfl; intro _ _) | (apply TL_buildSlice; exact rfl; exact rfl; exact rfl; exact rfl; exact rfl; intro _ _))
    refine TL_callV rfl rfl rfl (fun w h => c23x so4 sc4 w (hr.sl h (fun p hp => by repeat (first | exact List.mem_append_left _ hp | apply List.mem_append_right | apply List.mem_cons_of_mem))) (h.sl hal)) ?_
    repeat' (first | (refine TL_geq_t rfl rfl rfl (by first | omega | (dsimp only; omega)) ?_) | refine r1 ?_ | (apply TL_box; exact rfl; exact rfl; exact rfl; intro _ _) | (apply TL_alloc; exact rfl; intro _ _) | (apply TL_buildSlice; exact rfl; exact rfl; exact rfl; exact rfl; exact rfl; intro _ _))
    exact TQ_ret1 Try.results10 (RV.tmp rfl) (fun w' hs => ⟨rfl, hs.below⟩)
end Go.Proofs.Ytccgplomnjpniaa
