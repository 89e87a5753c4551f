/- The walk of the statement DateTrue. -/
import Derived.Test.YtccgplomnjpniaaE39
import Derived.Test.YtccgplomnjpniaaE34
namespace Go.Proofs.Ytccgplomnjpniaa
open Go Go.Eng Go.RowKit Go.Proofs
set_option maxHeartbeats 4000000
set_option maxRecDepth 10000
attribute [local irreducible] TL TC TQ

theorem c39 {n : Int} {s : Sp} (hw : Wi n s) (w : World) : Calls Try.prog 39 #[.int .i64 n, .agg (encSp s).toArray] w (RetV w (.bool true)) := by
  obtain ⟨h1, h2⟩ := hw
  refine enter (args := [.int .i64 n, .agg (encSp s).toArray]) Try.func39 rfl Try.ntmps39 rfl (SH.refl _) ?_
  repeat' (first | (refine TL_geq_t rfl rfl rfl h1 ?_) | (refine TL_leq_t rfl rfl rfl h2 ?_) | refine r1 ?_ | (apply TL_box; exact rfl; exact rfl; exact rfl; intro _ _) | (apply TL_alloc; exact rfl; intro _ _) | (apply TL_buildSlice; exact rfl; exact rfl; exact rfl; exact rfl; exact rfl; intro _ _))
  exact TQ_ret1 Try.results39 (RV.tmp rfl) (fun w' hs => ⟨rfl, hs.below⟩)
def cutMap (l : List Int) (k : Nat) : Int → Option Value := fun j => if j ∈ l.take k then some (.bool true) else none
theorem cutMap_succ {l : List Int} {k : Nat} {x : Int} (hx : l[k]? = some x) : fupd (cutMap l k) x (.bool true) = cutMap l (k + 1) := by
  funext j
  unfold fupd cutMap
  rw [List.take_add_one, hx]
  by_cases h : j = x
  · rw [if_pos h, if_pos (by rw [h]; simp)]
  · rw [if_neg h]
    by_cases h2 : j ∈ l.take k
    · rw [if_pos h2, if_pos (List.mem_append_left _ h2)]
    · rw [if_neg h2, if_neg (by simp [h2, h])]
theorem zero4' : (Try.prog.info? 4).map (fun i => i.zero) = some (some (Value.bool false)) := by kernel_rfl
theorem zero4 (w : World) : (zeroValue 4).run Try.prog w = .ok (.bool false) w := by
  obtain ⟨i, hi, hz⟩ := Option.map_eq_some_iff.1 zero4'
  simp [zeroValue, typeInfo, hi, hz]
/-- What is so ahead of each half. -/
def stK (U A Z : Tr) : Nat → Tr
  | 0 => U
  | 1 => A
  | _ => Z
structure DaySt where
  gone : Bool
  day : Nat
  m0 : Int
  m1 : Int
  n : Int
  half : Int
  t : Tr
structure DayP (f : Ft) (b : Bn) (l : List Int) (k : Nat) (n0 : Int) (t : Tr) (q : DaySt) : Prop where
  len : q.day ≤ b.ripe.length
  go : q.gone = false → k ≤ q.day ∧ (∃ tk, q.t = { t with rip := t.rip + n0, tak := t.tak + tk } ∧ DayI f b n0 (max ((q.day : Int) - k) 1 - 1) q.m0 q.m1 q.n q.half tk) ∧ (∀ j : Int, (k : Int) ≤ j → j < q.day → j ∉ l) ∧ (q.day : Int) - k ≤ f.keep + 1
  done : q.gone = true → Tin q.t (cutK f b l (k + 1))
theorem tin_B {f : Ft} {b : Bn} {l : List Int} (hf : OkFt f) (hb : OkBn b) {k : Nat} (hk : k ≤ b.ripe.length) {t : Tr} (h : Tin t (cutK f b l k)) : (0 ≤ t.g0 ∧ t.g0 ≤ 2400000000) ∧ (0 ≤ t.g1 ∧ t.g1 ≤ 2400000000) ∧ (0 ≤ t.g2 ∧ t.g2 ≤ 2400000000) ∧ (0 ≤ t.tak ∧ t.tak ≤ 2400000000) ∧ (0 ≤ t.fal ∧ t.fal ≤ 2400000000) ∧ (0 ≤ t.han ∧ t.han ≤ 2400000000) ∧ (0 ≤ t.wor ∧ t.wor ≤ 2400000000) ∧ (0 ≤ t.rip ∧ t.rip ≤ 24000000000) := by
  have hn := hb.1
  simp only [In] at hn
  obtain ⟨y0, y1, y2, y3, y4, y5, y6⟩ := (cutK_B (l := l) hf hb k hk).mono (show 200000000 * (k : Int) ≤ 2400000000 by omega)
  obtain ⟨t0, t1, t2, t3, t4, t5, t6, t7⟩ := h
  simp only [InS, Wi] at *
  omega
theorem dayI_B {f : Ft} {b : Bn} (hf : OkFt f) {n0 e m0 m1 n half tk : Int} (h0 : 0 ≤ n0 ∧ n0 ≤ 100000) (he : 0 ≤ e) (hb : OkBn b) (h : DayI f b n0 e m0 m1 n half tk) : (0 ≤ m0 ∧ m0 ≤ 1000) ∧ (0 ≤ m1 ∧ m1 ≤ 1000) ∧ (0 ≤ n ∧ n ≤ 100000) ∧ (0 ≤ half ∧ half ≤ 100000) ∧ (0 ≤ tk ∧ tk ≤ 100000) ∧ half ≤ n := by
  obtain ⟨h1, h2, h3, h4, h5⟩ := h
  have h6 := bLo_hi hb he
  have h7 := hf.1
  have h8 := hf.2.1
  simp only [Ord] at h7 h8
  have h9 := Int.mul_nonneg he h8.1
  omega
theorem c7 (f : Ft) (b : Bn) (ao : Option Addr) (c : Nat) (l : List Int) (lo : Option Addr) (lc : Nat) (by_ : List U32) (bo : Option Addr) (bc : Nat) (hl : b.ripe.length ≤ 9223372036854775807) (hl2 : l.length ≤ 9223372036854775807) (hlb : by_.length ≤ 9223372036854775807)
    (w : World) (ha : Sl w 2 encSp ao b.ripe) (hal : Sl w 1 encI lo l) (hb : Sl w 1 encU bo by_) :
    Calls Try.prog 7 #[.agg (encFt f).toArray, .agg (encBn b ao c).toArray, .slice lo l.length lc, .slice bo by_.length bc] w (RetV w (.bool true)) := by
  refine enter (args := [.agg (encFt f).toArray, .agg (encBn b ao c).toArray, .slice lo l.length lc, .slice bo by_.length bc]) Try.func7 rfl Try.ntmps7 rfl (SH.refl _) ?_
  repeat' (first | refine rn ?_ | (apply TL_box; exact rfl; exact rfl; exact rfl; intro _ _) | (apply TL_alloc; exact rfl; intro _ _) | (apply TL_buildSlice; exact rfl; exact rfl; exact rfl; exact rfl; exact rfl; intro _ _))
  rename_i b4 _ b5 _
  refine TL_callV rfl rfl rfl (fun w _ => c31 w) ?_
  repeat' (first | refine rn ?_ | (apply TL_box; exact rfl; exact rfl; exact rfl; intro _ _) | (apply TL_alloc; exact rfl; intro _ _) | (apply TL_buildSlice; exact rfl; exact rfl; exact rfl; exact rfl; exact rfl; intro _ _))
  refine TL_callV rfl rfl rfl (fun w h => c36 f b ao c l lo lc hl hl2 w (h.sl ha) (h.sl hal)) ?_
  repeat' (first | refine rn ?_ | (apply TL_box; exact rfl; exact rfl; exact rfl; intro _ _) | (apply TL_alloc; exact rfl; intro _ _) | (apply TL_buildSlice; exact rfl; exact rfl; exact rfl; exact rfl; exact rfl; intro _ _))
  refine TL_gsplit_dec rfl rfl (fun g1 => ?_) (fun g1 => ?_)
  · repeat' (first | refine rn ?_ | (apply TL_box; exact rfl; exact rfl; exact rfl; intro _ _) | (apply TL_alloc; exact rfl; intro _ _) | (apply TL_buildSlice; exact rfl; exact rfl; exact rfl; exact rfl; exact rfl; intro _ _))
    exact TQ_ret1 Try.results7 (RV.tmp rfl) (fun w' hs => ⟨rfl, hs.below⟩)
  repeat' (first | refine rn ?_ | (apply TL_box; exact rfl; exact rfl; exact rfl; intro _ _) | (apply TL_alloc; exact rfl; intro _ _) | (apply TL_buildSlice; exact rfl; exact rfl; exact rfl; exact rfl; exact rfl; intro _ _))
  have hrdy : Rdy f b l := Classical.not_not.1 g1
  obtain ⟨⟨r1', r2'⟩, hchk, hcut⟩ := hrdy
  obtain ⟨hf, hbn⟩ := checkR_ok hchk
  have hlen := hbn.1
  simp only [In] at hlen
  have v1 := hf.1
  have v2 := hf.2.1
  have v3 := hbn.2.2
  have v4 := hf.2.2.2.2.2
  simp only [Ord, In] at v1 v2 v3 v4
  have c23y := fun w h1 h2 => c23 f b ao c l lo lc (by omega) (by omega) w h1 h2
  rw [cutF_ok hchk hcut] at c23y
  have hfin : ∀ t, Tin t (cutK f b l b.ripe.length) → Tin t (cutR f b l) := fun t h => h
  generalize cutR f b l = y at c23y hfin
  refine TL_callV rfl rfl rfl (fun w h => c23y w (h.sl ha) (h.sl hal)) ?_
  repeat' (first | refine rn ?_ | (apply TL_box; exact rfl; exact rfl; exact rfl; intro _ _) | (apply TL_alloc; exact rfl; intro _ _) | (apply TL_buildSlice; exact rfl; exact rfl; exact rfl; exact rfl; exact rfl; intro _ _))
  rename_i b10 _
  refine TL_makeMap rfl (fun mb _ => ?_)
  repeat' (first | refine rn ?_ | (apply TL_box; exact rfl; exact rfl; exact rfl; intro _ _) | (apply TL_alloc; exact rfl; intro _ _) | (apply TL_buildSlice; exact rfl; exact rfl; exact rfl; exact rfl; exact rfl; intro _ _))
  refine TC_loop (σ := Nat × Array MapEntry × Nat) (fun q => q.1 ≤ l.length ∧ MR .i64 q.2.1.toList (cutMap l q.1)) (fun q => [(3, .slice bo by_.length bc), (4, .pointer (some ⟨b4, 0, none⟩)), (5, .pointer (some ⟨b5, 0, none⟩)), (9, .bool true), (10, .pointer (some ⟨b10, 0, none⟩)), (12, .map (some mb)), (58, .slice lo l.length lc), (59, .int .i64 l.length), (60, .int .i64 q.1)])
    (fun q => [(mb, .obj (.map q.2.1 q.2.2)), (b10, .cells (encYd y) 55), (b5, .cells (encBn b ao c) 46), (b4, .cells (encFt f) 43)]) (fun q => l.length - q.1) (0, #[], 0) ⟨Nat.zero_le _, MR.nil⟩ sb (fun w h => h) (fun q hq => ?_)
  obtain ⟨k, es, clk⟩ := q
  obtain ⟨q1, hmr⟩ := hq
  dsimp only at q1 hmr ⊢
  repeat' (first | refine rn ?_ | (apply TL_box; exact rfl; exact rfl; exact rfl; intro _ _) | (apply TL_alloc; exact rfl; intro _ _) | (apply TL_buildSlice; exact rfl; exact rfl; exact rfl; exact rfl; exact rfl; intro _ _))
  refine TC_cond_dec rfl (fun h1 => ?_) (fun h1 => ?_)
  · have hlt : k < l.length := by omega
    obtain ⟨x, hx⟩ : ∃ x, l[k]? = some x := ⟨_, List.getElem?_eq_getElem hlt⟩
    repeat' (first | refine rn ?_ | (apply TL_box; exact rfl; exact rfl; exact rfl; intro _ _) | (apply TL_alloc; exact rfl; intro _ _) | (apply TL_buildSlice; exact rfl; exact rfl; exact rfl; exact rfl; exact rfl; intro _ _))
    refine TL_index k rfl rfl rfl (fun w h => h.sl hal) rfl hlt (Nat.le_refl _) ?_
    refine TL_load_el1 (u := x) rfl rfl (fun w h => h.sl hal) hx rfl ?_
    repeat' (first | refine rn ?_ | (apply TL_box; exact rfl; exact rfl; exact rfl; intro _ _) | (apply TL_alloc; exact rfl; intro _ _) | (apply TL_buildSlice; exact rfl; exact rfl; exact rfl; exact rfl; exact rfl; intro _ _))
    refine TL_mapSet (.inl rfl) rfl rfl rfl (fun _ _ => up) hmr (fun es1 clk1 hr1 => ?_)
    rw [cutMap_succ hx] at hr1
    repeat' (first | refine rn ?_ | (apply TL_box; exact rfl; exact rfl; exact rfl; intro _ _) | (apply TL_alloc; exact rfl; intro _ _) | (apply TL_buildSlice; exact rfl; exact rfl; exact rfl; exact rfl; exact rfl; intro _ _))
    refine TQ_round (k + 1, es1, clk1) ⟨hlt, hr1⟩ (by dsimp only; omega) sb (fun w h => h)
  have hk : k = l.length := by omega
  subst hk
  have hmp : ∀ j, cutMap l l.length j = if j ∈ l then some (.bool true) else none := fun j => by unfold cutMap; rw [List.take_length]
  clear h1 q1
  repeat' (first | refine rn ?_ | (apply TL_box; exact rfl; exact rfl; exact rfl; intro _ _) | (apply TL_alloc; exact rfl; intro _ _) | (apply TL_buildSlice; exact rfl; exact rfl; exact rfl; exact rfl; exact rfl; intro _ _))
  rename_i b15 _
  refine TC_loop (σ := Nat × Tr) (fun q => q.1 ≤ b.ripe.length ∧ Tin q.2 (cutK f b l q.1)) (fun q => [(3, .slice bo by_.length bc), (4, .pointer (some ⟨b4, 0, none⟩)), (5, .pointer (some ⟨b5, 0, none⟩)), (9, .bool true), (10, .pointer (some ⟨b10, 0, none⟩)), (12, .map (some mb)), (15, .pointer (some ⟨b15, 0, none⟩)), (16, .int .i64 q.2.rip), (17, .int .i64 q.2.tak), (18, .int .i64 q.2.fal), (19, .int .i64 q.2.han), (20, .int .i64 q.2.wor), (68, .slice ao b.ripe.length c), (69, .int .i64 b.ripe.length), (70, .int .i64 q.1)])
    (fun q => [(b15, .cells [.int .i64 q.2.g0, .int .i64 q.2.g1, .int .i64 q.2.g2] 41), (mb, .obj (.map es clk)), (b10, .cells (encYd y) 55), (b5, .cells (encBn b ao c) 46), (b4, .cells (encFt f) 43)]) (fun q => b.ripe.length - q.1) (0, ⟨0, 0, 0, 0, 0, 0, 0, 0⟩) ⟨Nat.zero_le _, by simp only [cutK, zeroYd]; exact ⟨⟨Int.le_refl _, Int.le_refl _⟩, ⟨Int.le_refl _, Int.le_refl _⟩, ⟨Int.le_refl _, Int.le_refl _⟩, ⟨Int.le_refl _, Int.le_refl _⟩, ⟨Int.le_refl _, Int.le_refl _⟩, ⟨Int.le_refl _, Int.le_refl _⟩, ⟨Int.le_refl _, Int.le_refl _⟩, rfl⟩⟩ sb (fun w h => h) (fun q hq => ?_)
  obtain ⟨k, t⟩ := q
  obtain ⟨hk, ht⟩ := hq
  dsimp only at hk ht ⊢
  have htB := tin_B hf hbn hk ht
  repeat' (first | refine rn ?_ | (apply TL_box; exact rfl; exact rfl; exact rfl; intro _ _) | (apply TL_alloc; exact rfl; intro _ _) | (apply TL_buildSlice; exact rfl; exact rfl; exact rfl; exact rfl; exact rfl; intro _ _))
  refine TC_cond_dec rfl (fun h1 => ?_) (fun h1 => ?_)
  rotate_left
  · have hk2 : k = b.ripe.length := by omega
    subst hk2
    have hT := hfin t ht
    obtain ⟨f0, f1, f2, f3, f4, f5, f6, f7⟩ := hT
    repeat' (first | refine rn ?_ | (apply TL_box; exact rfl; exact rfl; exact rfl; intro _ _) | (apply TL_alloc; exact rfl; intro _ _) | (apply TL_buildSlice; exact rfl; exact rfl; exact rfl; exact rfl; exact rfl; intro _ _))
    refine TC_loop (σ := Nat) (fun k2 => k2 ≤ 3) (fun k2 => [(9, .bool true), (10, .pointer (some ⟨b10, 0, none⟩)), (15, .pointer (some ⟨b15, 0, none⟩)), (16, .int .i64 t.rip), (17, .int .i64 t.tak), (18, .int .i64 t.fal), (19, .int .i64 t.han), (20, .int .i64 t.wor), (34, .func (.func 39) #[] #[]), (216, .agg #[.int .i64 t.g0, .int .i64 t.g1, .int .i64 t.g2]), (217, .int .i64 k2)])
      (fun _ => [(b15, .cells [.int .i64 t.g0, .int .i64 t.g1, .int .i64 t.g2] 41), (mb, .obj (.map es clk)), (b10, .cells (encYd y) 55), (b5, .cells (encBn b ao c) 46), (b4, .cells (encFt f) 43)]) (fun k2 => 3 - k2) 0 (by omega) sb (fun w h => h) (fun k2 hk2 => ?_)
    have hk4 : k2 = 0 ∨ k2 = 1 ∨ k2 = 2 ∨ k2 = 3 := by omega
    rcases hk4 with rfl | rfl | rfl | rfl
    · repeat' (first | refine rn ?_ | (apply TL_box; exact rfl; exact rfl; exact rfl; intro _ _) | (apply TL_alloc; exact rfl; intro _ _) | (apply TL_buildSlice; exact rfl; exact rfl; exact rfl; exact rfl; exact rfl; intro _ _))
      refine TL_indexA 0 rfl rfl rfl rfl (by omega) rfl ?_
      repeat' (first | refine rn ?_ | (apply TL_box; exact rfl; exact rfl; exact rfl; intro _ _) | (apply TL_alloc; exact rfl; intro _ _) | (apply TL_buildSlice; exact rfl; exact rfl; exact rfl; exact rfl; exact rfl; intro _ _))
      refine TL_indexAddrA 0 rfl rfl rfl rfl (by omega) ?_
      repeat' (first | refine rn ?_ | (apply TL_box; exact rfl; exact rfl; exact rfl; intro _ _) | (apply TL_alloc; exact rfl; intro _ _) | (apply TL_buildSlice; exact rfl; exact rfl; exact rfl; exact rfl; exact rfl; intro _ _))
      refine TL_callV rfl rfl rfl (fun w _ => c39 f0 w) ?_
      repeat' (first | refine rn ?_ | (apply TL_box; exact rfl; exact rfl; exact rfl; intro _ _) | (apply TL_alloc; exact rfl; intro _ _) | (apply TL_buildSlice; exact rfl; exact rfl; exact rfl; exact rfl; exact rfl; intro _ _))
      refine TQ_round (0 + 1) (by omega) (by omega) sb (fun w h => h)
    · repeat' (first | refine rn ?_ | (apply TL_box; exact rfl; exact rfl; exact rfl; intro _ _) | (apply TL_alloc; exact rfl; intro _ _) | (apply TL_buildSlice; exact rfl; exact rfl; exact rfl; exact rfl; exact rfl; intro _ _))
      refine TL_indexA 1 rfl rfl rfl rfl (by omega) rfl ?_
      repeat' (first | refine rn ?_ | (apply TL_box; exact rfl; exact rfl; exact rfl; intro _ _) | (apply TL_alloc; exact rfl; intro _ _) | (apply TL_buildSlice; exact rfl; exact rfl; exact rfl; exact rfl; exact rfl; intro _ _))
      refine TL_indexAddrA 1 rfl rfl rfl rfl (by omega) ?_
      repeat' (first | refine rn ?_ | (apply TL_box; exact rfl; exact rfl; exact rfl; intro _ _) | (apply TL_alloc; exact rfl; intro _ _) | (apply TL_buildSlice; exact rfl; exact rfl; exact rfl; exact rfl; exact rfl; intro _ _))
      refine TL_callV rfl rfl rfl (fun w _ => c39 f1 w) ?_
      repeat' (first | refine rn ?_ | (apply TL_box; exact rfl; exact rfl; exact rfl; intro _ _) | (apply TL_alloc; exact rfl; intro _ _) | (apply TL_buildSlice; exact rfl; exact rfl; exact rfl; exact rfl; exact rfl; intro _ _))
      refine TQ_round (1 + 1) (by omega) (by omega) sb (fun w h => h)
    · repeat' (first | refine rn ?_ | (apply TL_box; exact rfl; exact rfl; exact rfl; intro _ _) | (apply TL_alloc; exact rfl; intro _ _) | (apply TL_buildSlice; exact rfl; exact rfl; exact rfl; exact rfl; exact rfl; intro _ _))
      refine TL_indexA 2 rfl rfl rfl rfl (by omega) rfl ?_
      repeat' (first | refine rn ?_ | (apply TL_box; exact rfl; exact rfl; exact rfl; intro _ _) | (apply TL_alloc; exact rfl; intro _ _) | (apply TL_buildSlice; exact rfl; exact rfl; exact rfl; exact rfl; exact rfl; intro _ _))
      refine TL_indexAddrA 2 rfl rfl rfl rfl (by omega) ?_
      repeat' (first | refine rn ?_ | (apply TL_box; exact rfl; exact rfl; exact rfl; intro _ _) | (apply TL_alloc; exact rfl; intro _ _) | (apply TL_buildSlice; exact rfl; exact rfl; exact rfl; exact rfl; exact rfl; intro _ _))
      refine TL_callV rfl rfl rfl (fun w _ => c39 f2 w) ?_
      repeat' (first | refine rn ?_ | (apply TL_box; exact rfl; exact rfl; exact rfl; intro _ _) | (apply TL_alloc; exact rfl; intro _ _) | (apply TL_buildSlice; exact rfl; exact rfl; exact rfl; exact rfl; exact rfl; intro _ _))
      refine TQ_round (2 + 1) (by omega) (by omega) sb (fun w h => h)
    · repeat' (first | refine rn ?_ | (apply TL_box; exact rfl; exact rfl; exact rfl; intro _ _) | (apply TL_alloc; exact rfl; intro _ _) | (apply TL_buildSlice; exact rfl; exact rfl; exact rfl; exact rfl; exact rfl; intro _ _))
      refine TL_callV rfl rfl rfl (fun w _ => c39 f3 w) ?_
      repeat' (first | refine rn ?_ | (apply TL_box; exact rfl; exact rfl; exact rfl; intro _ _) | (apply TL_alloc; exact rfl; intro _ _) | (apply TL_buildSlice; exact rfl; exact rfl; exact rfl; exact rfl; exact rfl; intro _ _))
      refine TL_callV rfl rfl rfl (fun w _ => c39 f4 w) ?_
      repeat' (first | refine rn ?_ | (apply TL_box; exact rfl; exact rfl; exact rfl; intro _ _) | (apply TL_alloc; exact rfl; intro _ _) | (apply TL_buildSlice; exact rfl; exact rfl; exact rfl; exact rfl; exact rfl; intro _ _))
      refine TL_callV rfl rfl rfl (fun w _ => c39 f5 w) ?_
      repeat' (first | refine rn ?_ | (apply TL_box; exact rfl; exact rfl; exact rfl; intro _ _) | (apply TL_alloc; exact rfl; intro _ _) | (apply TL_buildSlice; exact rfl; exact rfl; exact rfl; exact rfl; exact rfl; intro _ _))
      refine TL_callV rfl rfl rfl (fun w _ => c39 f6 w) ?_
      repeat' (first | refine rn ?_ | (apply TL_box; exact rfl; exact rfl; exact rfl; intro _ _) | (apply TL_alloc; exact rfl; intro _ _) | (apply TL_buildSlice; exact rfl; exact rfl; exact rfl; exact rfl; exact rfl; intro _ _))
      refine TL_indexAddrA 0 rfl rfl rfl rfl (by omega) ?_
      repeat' (first | refine rn ?_ | (apply TL_box; exact rfl; exact rfl; exact rfl; intro _ _) | (apply TL_alloc; exact rfl; intro _ _) | (apply TL_buildSlice; exact rfl; exact rfl; exact rfl; exact rfl; exact rfl; intro _ _))
      refine TL_indexAddrA 1 rfl rfl rfl rfl (by omega) ?_
      repeat' (first | refine rn ?_ | (apply TL_box; exact rfl; exact rfl; exact rfl; intro _ _) | (apply TL_alloc; exact rfl; intro _ _) | (apply TL_buildSlice; exact rfl; exact rfl; exact rfl; exact rfl; exact rfl; intro _ _))
      refine TL_indexAddrA 2 rfl rfl rfl rfl (by omega) ?_
      repeat' (first | (refine TL_eql_t rfl rfl rfl f7 ?_) | refine r1 ?_ | (apply TL_box; exact rfl; exact rfl; exact rfl; intro _ _) | (apply TL_alloc; exact rfl; intro _ _) | (apply TL_buildSlice; exact rfl; exact rfl; exact rfl; exact rfl; exact rfl; intro _ _))
      exact TQ_ret1 Try.results7 (RV.tmp rfl) (fun w' hs => ⟨rfl, hs.below⟩)
  have hlt : k < b.ripe.length := by omega
  obtain ⟨x, hx⟩ : ∃ x, b.ripe[k]? = some x := ⟨_, List.getElem?_eq_getElem hlt⟩
  have hox := hbn.2.1 x (List.mem_of_getElem? hx)
  simp only [Ord] at hox
  have hstep : cutK f b l (k + 1) = stepY f b l (cutK f b l k) k x := by rw [cutK, List.getD_eq_getElem?_getD, hx]; rfl
  repeat' (first | refine rn ?_ | (apply TL_box; exact rfl; exact rfl; exact rfl; intro _ _) | (apply TL_alloc; exact rfl; intro _ _) | (apply TL_buildSlice; exact rfl; exact rfl; exact rfl; exact rfl; exact rfl; intro _ _))
  refine TL_index k rfl rfl rfl (fun w h => h.sl ha) rfl hlt (Nat.le_refl _) ?_
  refine TL_load_eln (u := x) rfl rfl (fun w h => h.sl ha) hx rfl ?_
  repeat' (first | refine rn ?_ | (apply TL_box; exact rfl; exact rfl; exact rfl; intro _ _) | (apply TL_alloc; exact rfl; intro _ _) | (apply TL_buildSlice; exact rfl; exact rfl; exact rfl; exact rfl; exact rfl; intro _ _))
  have i1 := inside_rg (s := x) (n := chooseR by_ (5 * (k : Int))) (by omega) (choose_rg by_ (5 * (k : Int))).1
  apply TC_draw 6; kernel_rfl; exact Try.mixed
  · iterate 4 (refine' pv ?_; rotate_left)
    (refine' PG.val rfl rfl (by intro _X; refine TL_callV rfl rfl rfl (fun w h => c38 by_ (5 * (k : Int)) (by omega) bo bc hlb w (h.sl hb)) ?_; exact qe) ?_; rotate_left)
    (refine' PG.val rfl rfl (by intro _X; refine TL_callV rfl rfl rfl (fun w _ => c37 x _ hox.1 hox.2.1 (by omega) (choose_rg by_ (5 * (k : Int))) w) ?_; exact qe) ?_; rotate_left)
    exact PG.nil
  change TL _ _ _ _ _ _ _ _ _ _ _
  generalize insideR x (chooseR by_ (5 * (k : Int))) = n0 at i1 ⊢
  repeat' (first | refine rn ?_ | (apply TL_box; exact rfl; exact rfl; exact rfl; intro _ _) | (apply TL_alloc; exact rfl; intro _ _) | (apply TL_buildSlice; exact rfl; exact rfl; exact rfl; exact rfl; exact rfl; intro _ _))
  have i2 := inside_rg (s := f.wet) (n := chooseR by_ (5 * (k : Int) + 1 + ((0 : Nat) : Int))) (by omega) (choose_rg by_ _).1
  have i3 := inside_rg (s := f.wet) (n := chooseR by_ (5 * (k : Int) + 1 + ((1 : Nat) : Int))) (by omega) (choose_rg by_ _).1
  rename_i b22 _ b25 _
  refine TC_loop (σ := Nat) (fun k2 => k2 ≤ 2) (fun k2 => [(3, .slice bo by_.length bc), (4, .pointer (some ⟨b4, 0, none⟩)), (5, .pointer (some ⟨b5, 0, none⟩)), (9, .bool true), (10, .pointer (some ⟨b10, 0, none⟩)), (12, .map (some mb)), (15, .pointer (some ⟨b15, 0, none⟩)), (16, .int .i64 (t.rip + n0)), (17, .int .i64 t.tak), (18, .int .i64 t.fal), (19, .int .i64 t.han), (20, .int .i64 t.wor), (21, .int .i64 k), (23, .int .i64 n0), (24, .int .i64 (n0 / 2)), (25, .pointer (some ⟨b25, 0, none⟩)), (68, .slice ao b.ripe.length c), (69, .int .i64 b.ripe.length), (70, .int .i64 k), (86, .int .i64 k2)])
    (fun k2 => [(b25, .cells [.int .i64 (if 1 ≤ k2 then insideR f.wet (chooseR by_ (5 * (k : Int) + 1 + ((0 : Nat) : Int))) else 0), .int .i64 (if 2 ≤ k2 then insideR f.wet (chooseR by_ (5 * (k : Int) + 1 + ((1 : Nat) : Int))) else 0)] 81), (b15, .cells [.int .i64 t.g0, .int .i64 t.g1, .int .i64 t.g2] 41), (mb, .obj (.map es clk)), (b10, .cells (encYd y) 55), (b5, .cells (encBn b ao c) 46), (b4, .cells (encFt f) 43)]) (fun k2 => 2 - k2) 0 (by omega) sb (fun w h => h.sub (List.Sublist.cons_cons _ (List.Sublist.cons _ (List.Sublist.refl _)))) (fun k2 hk2 => ?_)
  have hk3 : k2 = 0 ∨ k2 = 1 ∨ k2 = 2 := by omega
  rcases hk3 with rfl | rfl | rfl
  · repeat' (first | refine rn ?_ | (apply TL_box; exact rfl; exact rfl; exact rfl; intro _ _) | (apply TL_alloc; exact rfl; intro _ _) | (apply TL_buildSlice; exact rfl; exact rfl; exact rfl; exact rfl; exact rfl; intro _ _))
    apply TC_draw 11; kernel_rfl; exact Try.mixed
    · iterate 9 (refine' pv ?_; rotate_left)
      (refine' PG.val rfl rfl (by intro _X; refine TL_callV rfl rfl rfl (fun w h => c38 by_ (5 * (k : Int) + 1 + ((0 : Nat) : Int)) (by omega) bo bc hlb w (h.sl hb)) ?_; exact qe) ?_; rotate_left)
      (refine' PG.val rfl rfl (by intro _X; refine TL_callV rfl rfl rfl (fun w _ => c37 f.wet _ v1.1 v1.2.1 (by omega) (choose_rg by_ (5 * (k : Int) + 1 + ((0 : Nat) : Int))) w) ?_; exact qe) ?_; rotate_left)
      exact PG.nil
    change TL _ _ _ _ _ _ _ _ _ _ _
    refine TL_indexAddrA 0 rfl rfl rfl rfl (by omega) ?_
    repeat' (first | refine rn ?_ | (apply TL_box; exact rfl; exact rfl; exact rfl; intro _ _) | (apply TL_alloc; exact rfl; intro _ _) | (apply TL_buildSlice; exact rfl; exact rfl; exact rfl; exact rfl; exact rfl; intro _ _))
    refine TQ_round (0 + 1) (by omega) (by omega) sb (fun w h => h)
  · repeat' (first | refine rn ?_ | (apply TL_box; exact rfl; exact rfl; exact rfl; intro _ _) | (apply TL_alloc; exact rfl; intro _ _) | (apply TL_buildSlice; exact rfl; exact rfl; exact rfl; exact rfl; exact rfl; intro _ _))
    apply TC_draw 11; kernel_rfl; exact Try.mixed
    · iterate 9 (refine' pv ?_; rotate_left)
      (refine' PG.val rfl rfl (by intro _X; refine TL_callV rfl rfl rfl (fun w h => c38 by_ (5 * (k : Int) + 1 + ((1 : Nat) : Int)) (by omega) bo bc hlb w (h.sl hb)) ?_; exact qe) ?_; rotate_left)
      (refine' PG.val rfl rfl (by intro _X; refine TL_callV rfl rfl rfl (fun w _ => c37 f.wet _ v1.1 v1.2.1 (by omega) (choose_rg by_ (5 * (k : Int) + 1 + ((1 : Nat) : Int))) w) ?_; exact qe) ?_; rotate_left)
      exact PG.nil
    change TL _ _ _ _ _ _ _ _ _ _ _
    refine TL_indexAddrA 1 rfl rfl rfl rfl (by omega) ?_
    repeat' (first | refine rn ?_ | (apply TL_box; exact rfl; exact rfl; exact rfl; intro _ _) | (apply TL_alloc; exact rfl; intro _ _) | (apply TL_buildSlice; exact rfl; exact rfl; exact rfl; exact rfl; exact rfl; intro _ _))
    refine TQ_round (1 + 1) (by omega) (by omega) sb (fun w h => h)
  generalize insideR f.wet (chooseR by_ (5 * (k : Int) + 1 + ((0 : Nat) : Int))) = w0' at i2 ⊢
  generalize insideR f.wet (chooseR by_ (5 * (k : Int) + 1 + ((1 : Nat) : Int))) = w1' at i3 ⊢
  repeat' (first | refine rn ?_ | (apply TL_box; exact rfl; exact rfl; exact rfl; intro _ _) | (apply TL_alloc; exact rfl; intro _ _) | (apply TL_buildSlice; exact rfl; exact rfl; exact rfl; exact rfl; exact rfl; intro _ _))
  have hst : DayP f b l k n0 t ⟨false, k, w0', w1', n0, n0 / 2, { t with rip := t.rip + n0 }⟩ :=
    ⟨hk, fun _ => ⟨Nat.le_refl _, ⟨0, by simp, by dsimp only; rw [show max ((k : Int) - k) 1 - 1 = 0 by omega]; exact DayI.start hf (by omega) i2 i3⟩, fun j h1 h2 => by dsimp only at h2; omega, by dsimp only; omega⟩, fun h => by cases h⟩
  refine TC_loop (σ := DaySt) (DayP f b l k n0 t) (fun q => [(3, .slice bo by_.length bc), (4, .pointer (some ⟨b4, 0, none⟩)), (5, .pointer (some ⟨b5, 0, none⟩)), (9, .bool true), (10, .pointer (some ⟨b10, 0, none⟩)), (12, .map (some mb)), (15, .pointer (some ⟨b15, 0, none⟩)), (16, .int .i64 q.t.rip), (17, .int .i64 q.t.tak), (18, .int .i64 q.t.fal), (19, .int .i64 q.t.han), (20, .int .i64 q.t.wor), (21, .int .i64 k), (23, .int .i64 q.n), (24, .int .i64 q.half), (25, .pointer (some ⟨b25, 0, none⟩)), (27, .bool q.gone), (28, .int .i64 q.day), (68, .slice ao b.ripe.length c), (69, .int .i64 b.ripe.length), (70, .int .i64 k)])
    (fun q => [(b25, .cells [.int .i64 q.m0, .int .i64 q.m1] 81), (b15, .cells [.int .i64 q.t.g0, .int .i64 q.t.g1, .int .i64 q.t.g2] 41), (mb, .obj (.map es clk)), (b10, .cells (encYd y) 55), (b5, .cells (encBn b ao c) 46), (b4, .cells (encFt f) 43)]) (fun q => b.ripe.length + 1 - q.day) ⟨false, k, w0', w1', n0, n0 / 2, { t with rip := t.rip + n0 }⟩ hst sb (fun w h => h) (fun q hq => ?_)
  clear hst i2 i3
  obtain ⟨gone, day, m0, m1, n, half, u⟩ := q
  obtain ⟨hd1, hgo, hdone⟩ := hq
  dsimp only at hd1 hgo hdone ⊢
  cases gone with
  | true =>
    have hT := hdone rfl
    repeat' (first | refine rn ?_ | (apply TL_box; exact rfl; exact rfl; exact rfl; intro _ _) | (apply TL_alloc; exact rfl; intro _ _) | (apply TL_buildSlice; exact rfl; exact rfl; exact rfl; exact rfl; exact rfl; intro _ _))
    refine TL_gsplit_dec rfl rfl (fun _ => ?_) (fun _ => ?_)
    · repeat' (first | refine rn ?_ | (apply TL_box; exact rfl; exact rfl; exact rfl; intro _ _) | (apply TL_alloc; exact rfl; intro _ _) | (apply TL_buildSlice; exact rfl; exact rfl; exact rfl; exact rfl; exact rfl; intro _ _))
      refine TQ_round (k + 1, u) ⟨hlt, hT⟩ (by dsimp only; omega) sb (fun w h => h.sub (List.Sublist.cons _ (List.Sublist.refl _)))
    · repeat' (first | refine rn ?_ | (apply TL_box; exact rfl; exact rfl; exact rfl; intro _ _) | (apply TL_alloc; exact rfl; intro _ _) | (apply TL_buildSlice; exact rfl; exact rfl; exact rfl; exact rfl; exact rfl; intro _ _))
      refine TQ_round (k + 1, u) ⟨hlt, hT⟩ (by dsimp only; omega) sb (fun w h => h.sub (List.Sublist.cons _ (List.Sublist.refl _)))
  | false =>
  obtain ⟨hkd, ⟨tk, hu, hD⟩, hno, hke⟩ := hgo rfl
  subst hu
  have hwi : Wi n0 x := i1
  have hdB := dayI_B hf (by omega) (by omega) hbn hD
  repeat' (first | refine rn ?_ | (apply TL_box; exact rfl; exact rfl; exact rfl; intro _ _) | (apply TL_alloc; exact rfl; intro _ _) | (apply TL_buildSlice; exact rfl; exact rfl; exact rfl; exact rfl; exact rfl; intro _ _))
  refine TL_gsplit_dec rfl rfl (fun h2 => ?_) (fun h2 => ?_)
  rotate_left
  · have hfate := fate_hang (f := f) (i := k) hcut (by omega) (by omega) (fun j hj1 hj2 => hno j hj1 (by omega))
    rw [show max ((day : Int) - k) 1 - 1 = (b.ripe.length : Int) - 1 - k by omega] at hD
    repeat' (first | refine rn ?_ | (apply TL_box; exact rfl; exact rfl; exact rfl; intro _ _) | (apply TL_alloc; exact rfl; intro _ _) | (apply TL_buildSlice; exact rfl; exact rfl; exact rfl; exact rfl; exact rfl; intro _ _))
    refine TQ_round (k + 1, { t with rip := t.rip + n0, tak := t.tak + tk, han := t.han + n }) ⟨hlt, by dsimp only; rw [hstep]; exact ht.hang hD hwi hfate⟩ (by dsimp only; omega) sb (fun w h => h.sub (List.Sublist.cons _ (List.Sublist.refl _)))
  repeat' (first | refine rn ?_ | (apply TL_box; exact rfl; exact rfl; exact rfl; intro _ _) | (apply TL_alloc; exact rfl; intro _ _) | (apply TL_buildSlice; exact rfl; exact rfl; exact rfl; exact rfl; exact rfl; intro _ _))
  refine TC_join (σ := Int × Int × Int × Int × Int) (fun q => DayI f b n0 ((day : Int) - k) q.1 q.2.1 q.2.2.1 q.2.2.2.1 (q.2.2.2.2 - t.tak))
    (fun q => [(3, .slice bo by_.length bc), (4, .pointer (some ⟨b4, 0, none⟩)), (5, .pointer (some ⟨b5, 0, none⟩)), (9, .bool true), (10, .pointer (some ⟨b10, 0, none⟩)), (12, .map (some mb)), (15, .pointer (some ⟨b15, 0, none⟩)), (16, .int .i64 (t.rip + n0)), (17, .int .i64 q.2.2.2.2), (18, .int .i64 t.fal), (19, .int .i64 t.han), (20, .int .i64 t.wor), (21, .int .i64 k), (23, .int .i64 q.2.2.1), (24, .int .i64 q.2.2.2.1), (25, .pointer (some ⟨b25, 0, none⟩)), (27, .bool false), (28, .int .i64 day), (68, .slice ao b.ripe.length c), (69, .int .i64 b.ripe.length), (70, .int .i64 k)])
    (fun q => [(b25, .cells [.int .i64 q.1, .int .i64 q.2.1] 81), (b15, .cells [.int .i64 t.g0, .int .i64 t.g1, .int .i64 t.g2] 41), (mb, .obj (.map es clk)), (b10, .cells (encYd y) 55), (b5, .cells (encBn b ao c) 46), (b4, .cells (encFt f) 43)]) ?_ (fun q hq => ?_)
  · refine TC_cond_dec rfl (fun h3 => ?_) (fun h3 => ?_)
    · rw [show max ((day : Int) - k) 1 - 1 = (day : Int) - k - 1 by omega] at hD
      have j0 := inside_rg (s := f.dry) (n := chooseR by_ (5 * (k : Int) + (day : Int) + ((0 : Nat) : Int))) (by omega) (choose_rg by_ _).1
      have j1 := inside_rg (s := f.dry) (n := chooseR by_ (5 * (k : Int) + (day : Int) + ((1 : Nat) : Int))) (by omega) (choose_rg by_ _).1
      repeat' (first | refine rn ?_ | (apply TL_box; exact rfl; exact rfl; exact rfl; intro _ _) | (apply TL_alloc; exact rfl; intro _ _) | (apply TL_buildSlice; exact rfl; exact rfl; exact rfl; exact rfl; exact rfl; intro _ _))
      refine TC_loop (σ := Nat) (fun k2 => k2 ≤ 2) (fun k2 => [(3, .slice bo by_.length bc), (4, .pointer (some ⟨b4, 0, none⟩)), (5, .pointer (some ⟨b5, 0, none⟩)), (9, .bool true), (10, .pointer (some ⟨b10, 0, none⟩)), (12, .map (some mb)), (15, .pointer (some ⟨b15, 0, none⟩)), (16, .int .i64 (t.rip + n0)), (17, .int .i64 (t.tak + tk)), (18, .int .i64 t.fal), (19, .int .i64 t.han), (20, .int .i64 t.wor), (21, .int .i64 k), (23, .int .i64 n), (24, .int .i64 half), (25, .pointer (some ⟨b25, 0, none⟩)), (27, .bool false), (28, .int .i64 day), (68, .slice ao b.ripe.length c), (69, .int .i64 b.ripe.length), (70, .int .i64 k), (117, .int .i64 k2)])
        (fun k2 => [(b25, .cells [.int .i64 (if 1 ≤ k2 then max 0 (m0 - insideR f.dry (chooseR by_ (5 * (k : Int) + (day : Int) + ((0 : Nat) : Int)))) else m0), .int .i64 (if 2 ≤ k2 then max 0 (m1 - insideR f.dry (chooseR by_ (5 * (k : Int) + (day : Int) + ((1 : Nat) : Int)))) else m1)] 81), (b15, .cells [.int .i64 t.g0, .int .i64 t.g1, .int .i64 t.g2] 41), (mb, .obj (.map es clk)), (b10, .cells (encYd y) 55), (b5, .cells (encBn b ao c) 46), (b4, .cells (encFt f) 43)]) (fun k2 => 2 - k2) 0 (by omega) sb (fun w h => h) (fun k2 hk2 => ?_)
      have hk3 : k2 = 0 ∨ k2 = 1 ∨ k2 = 2 := by omega
      rcases hk3 with rfl | rfl | rfl
      · have e0 : (if 1 ≤ 0 then max 0 (m0 - insideR f.dry (chooseR by_ (5 * (k : Int) + (day : Int) + ((0 : Nat) : Int)))) else m0) = m0 := if_neg (by decide)
        repeat' (first | refine rn ?_ | (apply TL_box; exact rfl; exact rfl; exact rfl; intro _ _) | (apply TL_alloc; exact rfl; intro _ _) | (apply TL_buildSlice; exact rfl; exact rfl; exact rfl; exact rfl; exact rfl; intro _ _))
        apply TC_draw 17; kernel_rfl; exact Try.mixed
        · iterate 2 (refine' pv ?_; rotate_left)
          (refine' PG.val rfl rfl (by intro _X; refine TL_indexAddrA 0 rfl rfl rfl rfl (by omega) ?_; exact qe) ?_; rotate_left)
          iterate 10 (refine' pv ?_; rotate_left)
          (refine' PG.val rfl rfl (by intro _X; refine TL_callV rfl rfl rfl (fun w h => c38 by_ (5 * (k : Int) + (day : Int) + ((0 : Nat) : Int)) (by omega) bo bc hlb w (h.sl hb)) ?_; exact qe) ?_; rotate_left)
          (refine' PG.val rfl rfl (by intro _X; refine TL_callV rfl rfl rfl (fun w _ => c37 f.dry _ v2.1 v2.2.1 (by omega) (choose_rg by_ (5 * (k : Int) + (day : Int) + ((0 : Nat) : Int))) w) ?_; exact qe) ?_; rotate_left)
          iterate 2 (refine' pv ?_; rotate_left)
          exact PG.nil
        change TL _ _ _ _ _ _ _ _ _ _ _
        refine TL_indexAddrA 0 rfl rfl rfl rfl (by omega) ?_
        repeat' (first | refine rn ?_ | (apply TL_box; exact rfl; exact rfl; exact rfl; intro _ _) | (apply TL_alloc; exact rfl; intro _ _) | (apply TL_buildSlice; exact rfl; exact rfl; exact rfl; exact rfl; exact rfl; intro _ _))
        refine TQ_round (0 + 1) (by omega) (by omega) sb (fun w h => h)
      · have e0 : (if 2 ≤ 1 then max 0 (m1 - insideR f.dry (chooseR by_ (5 * (k : Int) + (day : Int) + ((1 : Nat) : Int)))) else m1) = m1 := if_neg (by decide)
        repeat' (first | refine rn ?_ | (apply TL_box; exact rfl; exact rfl; exact rfl; intro _ _) | (apply TL_alloc; exact rfl; intro _ _) | (apply TL_buildSlice; exact rfl; exact rfl; exact rfl; exact rfl; exact rfl; intro _ _))
        apply TC_draw 17; kernel_rfl; exact Try.mixed
        · iterate 2 (refine' pv ?_; rotate_left)
          (refine' PG.val rfl rfl (by intro _X; refine TL_indexAddrA 1 rfl rfl rfl rfl (by omega) ?_; exact qe) ?_; rotate_left)
          iterate 10 (refine' pv ?_; rotate_left)
          (refine' PG.val rfl rfl (by intro _X; refine TL_callV rfl rfl rfl (fun w h => c38 by_ (5 * (k : Int) + (day : Int) + ((1 : Nat) : Int)) (by omega) bo bc hlb w (h.sl hb)) ?_; exact qe) ?_; rotate_left)
          (refine' PG.val rfl rfl (by intro _X; refine TL_callV rfl rfl rfl (fun w _ => c37 f.dry _ v2.1 v2.2.1 (by omega) (choose_rg by_ (5 * (k : Int) + (day : Int) + ((1 : Nat) : Int))) w) ?_; exact qe) ?_; rotate_left)
          iterate 2 (refine' pv ?_; rotate_left)
          exact PG.nil
        change TL _ _ _ _ _ _ _ _ _ _ _
        refine TL_indexAddrA 1 rfl rfl rfl rfl (by omega) ?_
        repeat' (first | refine rn ?_ | (apply TL_box; exact rfl; exact rfl; exact rfl; intro _ _) | (apply TL_alloc; exact rfl; intro _ _) | (apply TL_buildSlice; exact rfl; exact rfl; exact rfl; exact rfl; exact rfl; intro _ _))
        refine TQ_round (1 + 1) (by omega) (by omega) sb (fun w h => h)
      · generalize insideR f.dry (chooseR by_ (5 * (k : Int) + (day : Int) + ((0 : Nat) : Int))) = x0 at j0 ⊢
        generalize insideR f.dry (chooseR by_ (5 * (k : Int) + (day : Int) + ((1 : Nat) : Int))) = x1 at j1 ⊢
        repeat' (first | refine rn ?_ | (apply TL_box; exact rfl; exact rfl; exact rfl; intro _ _) | (apply TL_alloc; exact rfl; intro _ _) | (apply TL_buildSlice; exact rfl; exact rfl; exact rfl; exact rfl; exact rfl; intro _ _))
        refine TC_cond rfl (fun h4 => ?_) (fun h4 => ?_)
        · have hcov : b.cov = false := by cases h5 : b.cov with
            | true => rw [h5] at h4; cases h4
            | false => rfl
          have j2 := inside_rg (s := b.birds) (n := chooseR by_ (7 * (k : Int) + (day : Int))) (by omega) (choose_rg by_ _).1
          repeat' (first | refine rn ?_ | (apply TL_box; exact rfl; exact rfl; exact rfl; intro _ _) | (apply TL_alloc; exact rfl; intro _ _) | (apply TL_buildSlice; exact rfl; exact rfl; exact rfl; exact rfl; exact rfl; intro _ _))
          apply TC_draw 11; kernel_rfl; exact Try.mixed
          · iterate 8 (refine' pv ?_; rotate_left)
            (refine' PG.val rfl rfl (by intro _X; refine TL_callV rfl rfl rfl (fun w h => c38 by_ (7 * (k : Int) + (day : Int)) (by omega) bo bc hlb w (h.sl hb)) ?_; exact qe) ?_; rotate_left)
            (refine' PG.val rfl rfl (by intro _X; refine TL_callV rfl rfl rfl (fun w _ => c37 b.birds _ v3.1 v3.2.1 (by omega) (choose_rg by_ (7 * (k : Int) + (day : Int))) w) ?_; exact qe) ?_; rotate_left)
            (refine' pv ?_; rotate_left)
            exact PG.nil
          change TL _ _ _ _ _ _ _ _ _ _ _
          generalize insideR b.birds (chooseR by_ (7 * (k : Int) + (day : Int))) = xb at j2 ⊢
          have hN := DayI.birds hf hbn hcov hD j0 j1 j2
          rw [show (day : Int) - k - 1 + 1 = (day : Int) - k by omega] at hN
          have hmin : 0 ≤ min n xb ∧ min n xb ≤ 100000 := by omega
          generalize hmx : min n xb = mx at hN hmin ⊢
          repeat' (first | refine rn ?_ | (apply TL_box; exact rfl; exact rfl; exact rfl; intro _ _) | (apply TL_alloc; exact rfl; intro _ _) | (apply TL_buildSlice; exact rfl; exact rfl; exact rfl; exact rfl; exact rfl; intro _ _))
          exact TQ_mid (max 0 (m0 - x0), max 0 (m1 - x1), n - mx, min half (n - mx), t.tak + tk + mx) (by dsimp only; rw [show t.tak + tk + mx - t.tak = tk + mx by omega]; exact hN) (by first | exact sb | (rw [← hmx]; exact sb)) (fun w h => h)
        · have hcov : b.cov = true := by cases h5 : b.cov with
            | true => rfl
            | false => rw [h5] at h4; cases h4
          have hN := DayI.net hf hcov hD j0 j1
          rw [show (day : Int) - k - 1 + 1 = (day : Int) - k by omega] at hN
          repeat' (first | refine rn ?_ | (apply TL_box; exact rfl; exact rfl; exact rfl; intro _ _) | (apply TL_alloc; exact rfl; intro _ _) | (apply TL_buildSlice; exact rfl; exact rfl; exact rfl; exact rfl; exact rfl; intro _ _))
          exact TQ_mid (max 0 (m0 - x0), max 0 (m1 - x1), n, half, t.tak + tk) (by dsimp only; rw [show t.tak + tk - t.tak = tk by omega]; exact hN) sb (fun w h => h)
    · have hdk : day = k := by omega
      subst hdk
      rw [show max ((day : Int) - day) 1 - 1 = (day : Int) - day by omega] at hD
      repeat' (first | refine rn ?_ | (apply TL_box; exact rfl; exact rfl; exact rfl; intro _ _) | (apply TL_alloc; exact rfl; intro _ _) | (apply TL_buildSlice; exact rfl; exact rfl; exact rfl; exact rfl; exact rfl; intro _ _))
      exact TQ_mid (m0, m1, n, half, t.tak + tk) (by dsimp only; rw [show t.tak + tk - t.tak = tk by omega]; exact hD) sb (fun w h => h)
  clear hD hdB
  obtain ⟨m0', m1', n', half', T⟩ := q
  dsimp only at hq ⊢
  have hD := hq
  clear hq
  have hdB := dayI_B hf (by omega) (by omega) hbn hD
  have hTT : t.tak + (T - t.tak) = T := by omega
  repeat' (first | refine rn ?_ | (apply TL_box; exact rfl; exact rfl; exact rfl; intro _ _) | (apply TL_alloc; exact rfl; intro _ _) | (apply TL_buildSlice; exact rfl; exact rfl; exact rfl; exact rfl; exact rfl; intro _ _))
  refine TC_cond_dec rfl (fun h3 => ?_) (fun h3 => ?_)
  · have hfate := fate_fall (f := f) (n := b.ripe.length) (l := l) (i := k) (by omega) (fun j hj1 hj2 => hno j hj1 (by omega))
    rw [show (day : Int) - k = f.keep + 1 by omega] at hD
    have hN := ht.fall hD hwi hfate
    rw [hTT, ← hstep] at hN
    repeat' (first | refine rn ?_ | (apply TL_box; exact rfl; exact rfl; exact rfl; intro _ _) | (apply TL_alloc; exact rfl; intro _ _) | (apply TL_buildSlice; exact rfl; exact rfl; exact rfl; exact rfl; exact rfl; intro _ _))
    refine TQ_round ⟨true, day + 1, m0', m1', n', half', { t with rip := t.rip + n0, tak := T, fal := t.fal + n' }⟩ ⟨by dsimp only; omega, (fun h => by cases h), fun _ => hN⟩ (by dsimp only; omega) sb (fun w h => h)
  by_cases hin : (day : Int) ∈ l
  rotate_left
  · repeat' (first | refine rn ?_ | (apply TL_box; exact rfl; exact rfl; exact rfl; intro _ _) | (apply TL_alloc; exact rfl; intro _ _) | (apply TL_buildSlice; exact rfl; exact rfl; exact rfl; exact rfl; exact rfl; intro _ _))
    refine TL_lookup (v := .bool false) (z := .bool false) rfl rfl rfl mm hmr zero4 (by rw [hmp, if_neg hin]; rfl) ?_
    repeat' (first | refine rn ?_ | (apply TL_box; exact rfl; exact rfl; exact rfl; intro _ _) | (apply TL_alloc; exact rfl; intro _ _) | (apply TL_buildSlice; exact rfl; exact rfl; exact rfl; exact rfl; exact rfl; intro _ _))
    refine TQ_round ⟨false, day + 1, m0', m1', n', half', { t with rip := t.rip + n0, tak := T }⟩ ⟨by dsimp only; omega, fun _ => ⟨by dsimp only; omega, ⟨T - t.tak, by dsimp only; rw [hTT], by dsimp only; rw [show max (((day + 1 : Nat) : Int) - k) 1 - 1 = (day : Int) - k by omega]; exact hD⟩, fun j hj1 hj2 => ?_, by dsimp only; omega⟩, fun h => by cases h⟩ (by dsimp only; omega) sb (fun w h => h)
    dsimp only at hj2
    by_cases hj : j = (day : Int)
    · rw [hj]; exact hin
    · exact hno j hj1 (by omega)
  have hfate := fate_cut (f := f) (d := (day : Int) - k) (i := k) hcut (by omega) (by omega) (by rw [show (k : Int) + ((day : Int) - k) = day by omega]; exact hin) (fun j hj1 hj2 => hno j hj1 (by omega))
  have hN := ht.cut hf ⟨by omega, by omega⟩ hD hwi hox.1 hfate
  rw [hTT, ← hstep] at hN
  obtain ⟨U, hU⟩ : ∃ U : Tr, U = { t with rip := t.rip + n0, tak := T } := ⟨_, rfl⟩
  obtain ⟨A, hA⟩ : ∃ A, A = incG f U m0' half' := ⟨_, rfl⟩
  obtain ⟨Z, hZ⟩ : ∃ Z, Z = incG f A m1' (n' - half') := ⟨_, rfl⟩
  rw [← hU, ← hA, ← hZ] at hN
  have hp : 0 ≤ prc f (gradeR f m0') ∧ prc f (gradeR f m0') ≤ 1000 := by unfold prc; split <;> (try split) <;> omega
  have hp2 := mulB (a := half') (b := prc f (gradeR f m0')) hdB.2.2.2.1.1 hdB.2.2.2.1.2 hp.1 hp.2
  have hUB : U.g0 = t.g0 ∧ U.g1 = t.g1 ∧ U.g2 = t.g2 ∧ U.wor = t.wor := by rw [hU]; exact ⟨rfl, rfl, rfl, rfl⟩
  have hAB : (0 ≤ A.g0 ∧ A.g0 ≤ 3000000000) ∧ (0 ≤ A.g1 ∧ A.g1 ≤ 3000000000) ∧ (0 ≤ A.g2 ∧ A.g2 ≤ 3000000000) ∧ (0 ≤ A.wor ∧ A.wor ≤ 3000000000) := by
    rw [hA]; unfold incG; dsimp only
    refine ⟨?_, ?_, ?_, by omega⟩ <;> split <;> omega
  have a0 := mulB (a := half') (b := f.p0) hdB.2.2.2.1.1 hdB.2.2.2.1.2 v4.2.1.1 v4.2.1.2
  have a1 := mulB (a := half') (b := f.p1) hdB.2.2.2.1.1 hdB.2.2.2.1.2 v4.2.2.1.1 v4.2.2.1.2
  have a2 := mulB (a := half') (b := f.p2) hdB.2.2.2.1.1 hdB.2.2.2.1.2 v4.2.2.2.1 v4.2.2.2.2
  have c0 := mulB (a := n' - half') (b := f.p0) (by omega) (show n' - half' ≤ 100000 by omega) v4.2.1.1 v4.2.1.2
  have c1 := mulB (a := n' - half') (b := f.p1) (by omega) (show n' - half' ≤ 100000 by omega) v4.2.2.1.1 v4.2.2.1.2
  have c2 := mulB (a := n' - half') (b := f.p2) (by omega) (show n' - half' ≤ 100000 by omega) v4.2.2.2.1 v4.2.2.2.2
  clear hp hp2
  repeat' (first | refine rn ?_ | (apply TL_box; exact rfl; exact rfl; exact rfl; intro _ _) | (apply TL_alloc; exact rfl; intro _ _) | (apply TL_buildSlice; exact rfl; exact rfl; exact rfl; exact rfl; exact rfl; intro _ _))
  refine TL_lookup_some (v := .bool true) rfl rfl rfl mm hmr (by rw [hmp, if_pos hin]) ?_
  repeat' (first | refine rn ?_ | (apply TL_box; exact rfl; exact rfl; exact rfl; intro _ _) | (apply TL_alloc; exact rfl; intro _ _) | (apply TL_buildSlice; exact rfl; exact rfl; exact rfl; exact rfl; exact rfl; intro _ _))
  refine TC_loop (σ := Nat) (fun k2 => k2 ≤ 2) (fun k2 => [(3, .slice bo by_.length bc), (4, .pointer (some ⟨b4, 0, none⟩)), (5, .pointer (some ⟨b5, 0, none⟩)), (9, .bool true), (10, .pointer (some ⟨b10, 0, none⟩)), (12, .map (some mb)), (15, .pointer (some ⟨b15, 0, none⟩)), (16, .int .i64 (stK U A Z k2).rip), (17, .int .i64 (stK U A Z k2).tak), (18, .int .i64 (stK U A Z k2).fal), (19, .int .i64 (stK U A Z k2).han), (20, .int .i64 (stK U A Z k2).wor), (21, .int .i64 k), (23, .int .i64 n'), (24, .int .i64 half'), (25, .pointer (some ⟨b25, 0, none⟩)), (27, .bool false), (28, .int .i64 day), (68, .slice ao b.ripe.length c), (69, .int .i64 b.ripe.length), (70, .int .i64 k), (178, .agg #[.int .i64 half', .int .i64 (n' - half')]), (179, .int .i64 k2)])
    (fun k2 => [(b25, .cells [.int .i64 m0', .int .i64 m1'] 81), (b15, .cells [.int .i64 (stK U A Z k2).g0, .int .i64 (stK U A Z k2).g1, .int .i64 (stK U A Z k2).g2] 41), (mb, .obj (.map es clk)), (b10, .cells (encYd y) 55), (b5, .cells (encBn b ao c) 46), (b4, .cells (encFt f) 43)]) (fun k2 => 2 - k2) 0 (by omega) (by rw [hU]; exact sb) (fun w h => by rw [hU]; exact h) (fun k2 hk2 => ?_)
  have hk3 : k2 = 0 ∨ k2 = 1 ∨ k2 = 2 := by omega
  rcases hk3 with rfl | rfl | rfl
  · repeat' (first | refine rn ?_ | (apply TL_box; exact rfl; exact rfl; exact rfl; intro _ _) | (apply TL_alloc; exact rfl; intro _ _) | (apply TL_buildSlice; exact rfl; exact rfl; exact rfl; exact rfl; exact rfl; intro _ _))
    refine TL_indexA 0 rfl rfl rfl rfl (by omega) rfl ?_
    repeat' (first | refine rn ?_ | (apply TL_box; exact rfl; exact rfl; exact rfl; intro _ _) | (apply TL_alloc; exact rfl; intro _ _) | (apply TL_buildSlice; exact rfl; exact rfl; exact rfl; exact rfl; exact rfl; intro _ _))
    apply TC_draw 6; kernel_rfl; exact Try.mixed
    · (refine' pv ?_; rotate_left)
      (refine' PG.val rfl rfl (by intro _X; refine TL_indexAddrA 0 rfl rfl rfl rfl (by omega) ?_; exact qe) ?_; rotate_left)
      iterate 4 (refine' pv ?_; rotate_left)
      exact PG.nil
    change TL _ _ _ _ _ _ _ _ _ _ _
    repeat' (first | refine rn ?_ | (apply TL_box; exact rfl; exact rfl; exact rfl; intro _ _) | (apply TL_alloc; exact rfl; intro _ _) | (apply TL_buildSlice; exact rfl; exact rfl; exact rfl; exact rfl; exact rfl; intro _ _))
    refine TC_cond_dec rfl (fun g2 => ?_) (fun g2 => ?_)
    · have e : A = { U with g0 := U.g0 + half', wor := U.wor + half' * f.p0 } := by
        have hg : gradeR f m0' = 0 := by unfold gradeR; rw [if_pos g2]
        rw [hA]; unfold incG; rw [hg]; simp [prc]
      have s0 : (stK U A Z 0).g0 = U.g0 := rfl
      have s1 : (stK U A Z 0).wor = U.wor := rfl
      subst e
      clear hA
      repeat' (first | refine rn ?_ | (apply TL_box; exact rfl; exact rfl; exact rfl; intro _ _) | (apply TL_alloc; exact rfl; intro _ _) | (apply TL_buildSlice; exact rfl; exact rfl; exact rfl; exact rfl; exact rfl; intro _ _))
      refine TL_indexAddrA 0 rfl rfl rfl rfl (by omega) ?_
      repeat' (first | refine rn ?_ | (apply TL_box; exact rfl; exact rfl; exact rfl; intro _ _) | (apply TL_alloc; exact rfl; intro _ _) | (apply TL_buildSlice; exact rfl; exact rfl; exact rfl; exact rfl; exact rfl; intro _ _))
      refine TL_indexAddrA 0 rfl rfl rfl rfl (by omega) ?_
      repeat' (first | refine rn ?_ | (apply TL_box; exact rfl; exact rfl; exact rfl; intro _ _) | (apply TL_alloc; exact rfl; intro _ _) | (apply TL_buildSlice; exact rfl; exact rfl; exact rfl; exact rfl; exact rfl; intro _ _))
      refine TL_indexAddrA 0 rfl rfl rfl rfl (by omega) ?_
      repeat' (first | refine rn ?_ | (apply TL_box; exact rfl; exact rfl; exact rfl; intro _ _) | (apply TL_alloc; exact rfl; intro _ _) | (apply TL_buildSlice; exact rfl; exact rfl; exact rfl; exact rfl; exact rfl; intro _ _))
      refine TQ_round (0 + 1) (by omega) (by omega) sb (fun w h => h)
    · repeat' (first | refine rn ?_ | (apply TL_box; exact rfl; exact rfl; exact rfl; intro _ _) | (apply TL_alloc; exact rfl; intro _ _) | (apply TL_buildSlice; exact rfl; exact rfl; exact rfl; exact rfl; exact rfl; intro _ _))
      apply TC_draw 6; kernel_rfl; exact Try.mixed
      · (refine' pv ?_; rotate_left)
        (refine' PG.val rfl rfl (by intro _X; refine TL_indexAddrA 0 rfl rfl rfl rfl (by omega) ?_; exact qe) ?_; rotate_left)
        iterate 4 (refine' pv ?_; rotate_left)
        exact PG.nil
      change TL _ _ _ _ _ _ _ _ _ _ _
      repeat' (first | refine rn ?_ | (apply TL_box; exact rfl; exact rfl; exact rfl; intro _ _) | (apply TL_alloc; exact rfl; intro _ _) | (apply TL_buildSlice; exact rfl; exact rfl; exact rfl; exact rfl; exact rfl; intro _ _))
      refine TC_cond_dec rfl (fun g3 => ?_) (fun g3 => ?_)
      · have e : A = { U with g1 := U.g1 + half', wor := U.wor + half' * f.p1 } := by
          have hg : gradeR f m0' = 1 := by unfold gradeR; rw [if_neg g2, if_pos g3]
          rw [hA]; unfold incG; rw [hg]; simp [prc]
        have s0 : (stK U A Z 0).g1 = U.g1 := rfl
        have s1 : (stK U A Z 0).wor = U.wor := rfl
        subst e
        clear hA
        repeat' (first | refine rn ?_ | (apply TL_box; exact rfl; exact rfl; exact rfl; intro _ _) | (apply TL_alloc; exact rfl; intro _ _) | (apply TL_buildSlice; exact rfl; exact rfl; exact rfl; exact rfl; exact rfl; intro _ _))
        refine TL_indexAddrA 1 rfl rfl rfl rfl (by omega) ?_
        repeat' (first | refine rn ?_ | (apply TL_box; exact rfl; exact rfl; exact rfl; intro _ _) | (apply TL_alloc; exact rfl; intro _ _) | (apply TL_buildSlice; exact rfl; exact rfl; exact rfl; exact rfl; exact rfl; intro _ _))
        refine TL_indexAddrA 1 rfl rfl rfl rfl (by omega) ?_
        repeat' (first | refine rn ?_ | (apply TL_box; exact rfl; exact rfl; exact rfl; intro _ _) | (apply TL_alloc; exact rfl; intro _ _) | (apply TL_buildSlice; exact rfl; exact rfl; exact rfl; exact rfl; exact rfl; intro _ _))
        refine TL_indexAddrA 1 rfl rfl rfl rfl (by omega) ?_
        repeat' (first | refine rn ?_ | (apply TL_box; exact rfl; exact rfl; exact rfl; intro _ _) | (apply TL_alloc; exact rfl; intro _ _) | (apply TL_buildSlice; exact rfl; exact rfl; exact rfl; exact rfl; exact rfl; intro _ _))
        refine TQ_round (0 + 1) (by omega) (by omega) sb (fun w h => h)
      · have e : A = { U with g2 := U.g2 + half', wor := U.wor + half' * f.p2 } := by
          have hg : gradeR f m0' = 2 := by unfold gradeR; rw [if_neg g2, if_neg g3]
          rw [hA]; unfold incG; rw [hg]; simp [prc]
        have s0 : (stK U A Z 0).g2 = U.g2 := rfl
        have s1 : (stK U A Z 0).wor = U.wor := rfl
        subst e
        clear hA
        repeat' (first | refine rn ?_ | (apply TL_box; exact rfl; exact rfl; exact rfl; intro _ _) | (apply TL_alloc; exact rfl; intro _ _) | (apply TL_buildSlice; exact rfl; exact rfl; exact rfl; exact rfl; exact rfl; intro _ _))
        refine TL_indexAddrA 2 rfl rfl rfl rfl (by omega) ?_
        repeat' (first | refine rn ?_ | (apply TL_box; exact rfl; exact rfl; exact rfl; intro _ _) | (apply TL_alloc; exact rfl; intro _ _) | (apply TL_buildSlice; exact rfl; exact rfl; exact rfl; exact rfl; exact rfl; intro _ _))
        refine TL_indexAddrA 2 rfl rfl rfl rfl (by omega) ?_
        repeat' (first | refine rn ?_ | (apply TL_box; exact rfl; exact rfl; exact rfl; intro _ _) | (apply TL_alloc; exact rfl; intro _ _) | (apply TL_buildSlice; exact rfl; exact rfl; exact rfl; exact rfl; exact rfl; intro _ _))
        refine TL_indexAddrA 2 rfl rfl rfl rfl (by omega) ?_
        repeat' (first | refine rn ?_ | (apply TL_box; exact rfl; exact rfl; exact rfl; intro _ _) | (apply TL_alloc; exact rfl; intro _ _) | (apply TL_buildSlice; exact rfl; exact rfl; exact rfl; exact rfl; exact rfl; intro _ _))
        refine TQ_round (0 + 1) (by omega) (by omega) sb (fun w h => h)
  · repeat' (first | refine rn ?_ | (apply TL_box; exact rfl; exact rfl; exact rfl; intro _ _) | (apply TL_alloc; exact rfl; intro _ _) | (apply TL_buildSlice; exact rfl; exact rfl; exact rfl; exact rfl; exact rfl; intro _ _))
    refine TL_indexA 1 rfl rfl rfl rfl (by omega) rfl ?_
    repeat' (first | refine rn ?_ | (apply TL_box; exact rfl; exact rfl; exact rfl; intro _ _) | (apply TL_alloc; exact rfl; intro _ _) | (apply TL_buildSlice; exact rfl; exact rfl; exact rfl; exact rfl; exact rfl; intro _ _))
    apply TC_draw 6; kernel_rfl; exact Try.mixed
    · (refine' pv ?_; rotate_left)
      (refine' PG.val rfl rfl (by intro _X; refine TL_indexAddrA 1 rfl rfl rfl rfl (by omega) ?_; exact qe) ?_; rotate_left)
      iterate 4 (refine' pv ?_; rotate_left)
      exact PG.nil
    change TL _ _ _ _ _ _ _ _ _ _ _
    repeat' (first | refine rn ?_ | (apply TL_box; exact rfl; exact rfl; exact rfl; intro _ _) | (apply TL_alloc; exact rfl; intro _ _) | (apply TL_buildSlice; exact rfl; exact rfl; exact rfl; exact rfl; exact rfl; intro _ _))
    refine TC_cond_dec rfl (fun g2 => ?_) (fun g2 => ?_)
    · have e : Z = { A with g0 := A.g0 + (n' - half'), wor := A.wor + (n' - half') * f.p0 } := by
        have hg : gradeR f m1' = 0 := by unfold gradeR; rw [if_pos g2]
        rw [hZ]; unfold incG; rw [hg]; simp [prc]
      have s0 : (stK U A Z 1).g0 = A.g0 := rfl
      have s1 : (stK U A Z 1).wor = A.wor := rfl
      subst e
      clear hZ
      repeat' (first | refine rn ?_ | (apply TL_box; exact rfl; exact rfl; exact rfl; intro _ _) | (apply TL_alloc; exact rfl; intro _ _) | (apply TL_buildSlice; exact rfl; exact rfl; exact rfl; exact rfl; exact rfl; intro _ _))
      refine TL_indexAddrA 0 rfl rfl rfl rfl (by omega) ?_
      repeat' (first | refine rn ?_ | (apply TL_box; exact rfl; exact rfl; exact rfl; intro _ _) | (apply TL_alloc; exact rfl; intro _ _) | (apply TL_buildSlice; exact rfl; exact rfl; exact rfl; exact rfl; exact rfl; intro _ _))
      refine TL_indexAddrA 0 rfl rfl rfl rfl (by omega) ?_
      repeat' (first | refine rn ?_ | (apply TL_box; exact rfl; exact rfl; exact rfl; intro _ _) | (apply TL_alloc; exact rfl; intro _ _) | (apply TL_buildSlice; exact rfl; exact rfl; exact rfl; exact rfl; exact rfl; intro _ _))
      refine TL_indexAddrA 0 rfl rfl rfl rfl (by omega) ?_
      repeat' (first | refine rn ?_ | (apply TL_box; exact rfl; exact rfl; exact rfl; intro _ _) | (apply TL_alloc; exact rfl; intro _ _) | (apply TL_buildSlice; exact rfl; exact rfl; exact rfl; exact rfl; exact rfl; intro _ _))
      refine TQ_round (1 + 1) (by omega) (by omega) sb (fun w h => h)
    · repeat' (first | refine rn ?_ | (apply TL_box; exact rfl; exact rfl; exact rfl; intro _ _) | (apply TL_alloc; exact rfl; intro _ _) | (apply TL_buildSlice; exact rfl; exact rfl; exact rfl; exact rfl; exact rfl; intro _ _))
      apply TC_draw 6; kernel_rfl; exact Try.mixed
      · (refine' pv ?_; rotate_left)
        (refine' PG.val rfl rfl (by intro _X; refine TL_indexAddrA 1 rfl rfl rfl rfl (by omega) ?_; exact qe) ?_; rotate_left)
        iterate 4 (refine' pv ?_; rotate_left)
        exact PG.nil
      change TL _ _ _ _ _ _ _ _ _ _ _
      repeat' (first | refine rn ?_ | (apply TL_box; exact rfl; exact rfl; exact rfl; intro _ _) | (apply TL_alloc; exact rfl; intro _ _) | (apply TL_buildSlice; exact rfl; exact rfl; exact rfl; exact rfl; exact rfl; intro _ _))
      refine TC_cond_dec rfl (fun g3 => ?_) (fun g3 => ?_)
      · have e : Z = { A with g1 := A.g1 + (n' - half'), wor := A.wor + (n' - half') * f.p1 } := by
          have hg : gradeR f m1' = 1 := by unfold gradeR; rw [if_neg g2, if_pos g3]
          rw [hZ]; unfold incG; rw [hg]; simp [prc]
        have s0 : (stK U A Z 1).g1 = A.g1 := rfl
        have s1 : (stK U A Z 1).wor = A.wor := rfl
        subst e
        clear hZ
        repeat' (first | refine rn ?_ | (apply TL_box; exact rfl; exact rfl; exact rfl; intro _ _) | (apply TL_alloc; exact rfl; intro _ _) | (apply TL_buildSlice; exact rfl; exact rfl; exact rfl; exact rfl; exact rfl; intro _ _))
        refine TL_indexAddrA 1 rfl rfl rfl rfl (by omega) ?_
        repeat' (first | refine rn ?_ | (apply TL_box; exact rfl; exact rfl; exact rfl; intro _ _) | (apply TL_alloc; exact rfl; intro _ _) | (apply TL_buildSlice; exact rfl; exact rfl; exact rfl; exact rfl; exact rfl; intro _ _))
        refine TL_indexAddrA 1 rfl rfl rfl rfl (by omega) ?_
        repeat' (first | refine rn ?_ | (apply TL_box; exact rfl; exact rfl; exact rfl; intro _ _) | (apply TL_alloc; exact rfl; intro _ _) | (apply TL_buildSlice; exact rfl; exact rfl; exact rfl; exact rfl; exact rfl; intro _ _))
        refine TL_indexAddrA 1 rfl rfl rfl rfl (by omega) ?_
        repeat' (first | refine rn ?_ | (apply TL_box; exact rfl; exact rfl; exact rfl; intro _ _) | (apply TL_alloc; exact rfl; intro _ _) | (apply TL_buildSlice; exact rfl; exact rfl; exact rfl; exact rfl; exact rfl; intro _ _))
        refine TQ_round (1 + 1) (by omega) (by omega) sb (fun w h => h)
      · have e : Z = { A with g2 := A.g2 + (n' - half'), wor := A.wor + (n' - half') * f.p2 } := by
          have hg : gradeR f m1' = 2 := by unfold gradeR; rw [if_neg g2, if_neg g3]
          rw [hZ]; unfold incG; rw [hg]; simp [prc]
        have s0 : (stK U A Z 1).g2 = A.g2 := rfl
        have s1 : (stK U A Z 1).wor = A.wor := rfl
        subst e
        clear hZ
        repeat' (first | refine rn ?_ | (apply TL_box; exact rfl; exact rfl; exact rfl; intro _ _) | (apply TL_alloc; exact rfl; intro _ _) | (apply TL_buildSlice; exact rfl; exact rfl; exact rfl; exact rfl; exact rfl; intro _ _))
        refine TL_indexAddrA 2 rfl rfl rfl rfl (by omega) ?_
        repeat' (first | refine rn ?_ | (apply TL_box; exact rfl; exact rfl; exact rfl; intro _ _) | (apply TL_alloc; exact rfl; intro _ _) | (apply TL_buildSlice; exact rfl; exact rfl; exact rfl; exact rfl; exact rfl; intro _ _))
        refine TL_indexAddrA 2 rfl rfl rfl rfl (by omega) ?_
        repeat' (first | refine rn ?_ | (apply TL_box; exact rfl; exact rfl; exact rfl; intro _ _) | (apply TL_alloc; exact rfl; intro _ _) | (apply TL_buildSlice; exact rfl; exact rfl; exact rfl; exact rfl; exact rfl; intro _ _))
        refine TL_indexAddrA 2 rfl rfl rfl rfl (by omega) ?_
        repeat' (first | refine rn ?_ | (apply TL_box; exact rfl; exact rfl; exact rfl; intro _ _) | (apply TL_alloc; exact rfl; intro _ _) | (apply TL_buildSlice; exact rfl; exact rfl; exact rfl; exact rfl; exact rfl; intro _ _))
        refine TQ_round (1 + 1) (by omega) (by omega) sb (fun w h => h)
  · repeat' (first | refine rn ?_ | (apply TL_box; exact rfl; exact rfl; exact rfl; intro _ _) | (apply TL_alloc; exact rfl; intro _ _) | (apply TL_buildSlice; exact rfl; exact rfl; exact rfl; exact rfl; exact rfl; intro _ _))
    refine TQ_round ⟨true, day + 1, m0', m1', n', half', Z⟩ ⟨by dsimp only; omega, (fun h => by cases h), fun _ => hN⟩ (by dsimp only; omega) sb (fun w h => h)
end Go.Proofs.Ytccgplomnjpniaa
