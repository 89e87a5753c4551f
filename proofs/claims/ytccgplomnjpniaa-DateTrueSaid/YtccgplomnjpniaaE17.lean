/- Walks: cut, of the reference. -/
import Derived.Test.YtccgplomnjpniaaE16
namespace Go.Proofs.Ytccgplomnjpniaa
open Go Go.Eng Go.RowKit Go.Proofs
set_option maxHeartbeats 4000000
set_option maxRecDepth 10000
attribute [local irreducible] TL TC TQ

theorem wrap_u8_of {n : Int} (h : 0 ≤ n ∧ n ≤ 255) : IntKind.u8.wrap n = n := by
  rw [IntKind.wrap_u8]; omega
theorem price (f : Ft) (a : Nat) (ha : a < 3) : takeN 1 (dropN (0 + 7 + a * 1) (encFt f)) = some [.int .i64 ((prL f).getD a 0)] := by
  have : a = 0 ∨ a = 1 ∨ a = 2 := by omega
  rcases this with rfl | rfl | rfl <;> rfl
/-- The least, and the greatest price, of the first k of them. -/
def leastK (f : Ft) (a n k : Nat) : Int := (((prL f).drop a).take n |>.take k).foldl min ((prL f).getD a 0)
def mostK (f : Ft) (a n k : Nat) : Int := (((prL f).drop a).take n |>.take k).foldl max ((prL f).getD a 0)
theorem someL_get (f : Ft) {a n k : Nat} (hk : k < n) (hn : a + n ≤ 3) : (((prL f).drop a).take n)[k]? = some ((prL f).getD (a + k) 0) := by
  rw [List.getElem?_take, if_pos hk, List.getElem?_drop, List.getD_eq_getElem?_getD]
  have : a + k < (prL f).length := by simp [prL]; omega
  rw [List.getElem?_eq_getElem this]; rfl
theorem leastK_succ (f : Ft) {a n k : Nat} (hk : k < n) (hn : a + n ≤ 3) : leastK f a n (k + 1) = min (leastK f a n k) ((prL f).getD (a + k) 0) := fold_take _ _ _ _ (someL_get f hk hn)
theorem mostK_succ (f : Ft) {a n k : Nat} (hk : k < n) (hn : a + n ≤ 3) : mostK f a n (k + 1) = max (mostK f a n k) ((prL f).getD (a + k) 0) := fold_take _ _ _ _ (someL_get f hk hn)
theorem someL_cons (f : Ft) {a n : Nat} (h1 : 1 ≤ n) (hn : a + n ≤ 3) : ∃ l0, ((prL f).drop a).take n = (prL f).getD a 0 :: l0 := by
  have := someL_get f (show 0 < n by omega) hn
  cases h : ((prL f).drop a).take n with
  | nil => rw [h] at this; simp at this
  | cons x l0 =>
    rw [h] at this
    have e : x = (prL f).getD a 0 := by simpa using this
    exact ⟨l0, by rw [e]⟩
theorem leastK_all (f : Ft) {a n : Nat} (h1 : 1 ≤ n) (hn : a + n ≤ 3) : leastK f a n n = minL (((prL f).drop a).take n) := by
  obtain ⟨l0, h⟩ := someL_cons f h1 hn
  unfold leastK
  rw [List.take_of_length_le (by rw [List.length_take]; omega), h]
  simp [minL]
theorem mostK_all (f : Ft) {a n : Nat} (h1 : 1 ≤ n) (hn : a + n ≤ 3) : mostK f a n n = maxL (((prL f).drop a).take n) := by
  obtain ⟨l0, h⟩ := someL_cons f h1 hn
  unfold mostK
  rw [List.take_of_length_le (by rw [List.length_take]; omega), h]
  simp [maxL]
theorem cutAt_cons (x : Int) (l : List Int) (i : Int) : cutAt (x :: l) i = if i ≤ x then some x else cutAt l i := by
  unfold cutAt
  rw [List.find?_cons]
  by_cases h : i ≤ x
  · rw [if_pos h, decide_eq_true h]
  · rw [if_neg h, decide_eq_false h]

theorem c61 (f : Ft) (b : Bn) (ao : Option Addr) (c : Nat) (l : List Int) (lo : Option Addr) (lc : Nat) (hf : OkFt f) (hb : OkBn b) (hl : CutsOk b.ripe.length l) (w : World) (ha : Sl w 2 encSp ao b.ripe) (hal : Sl w 1 encI lo l) :
    Calls Try.prog 61 #[.agg (encFt f).toArray, .agg (encBn b ao c).toArray, .slice lo l.length lc] w (RetV w (.agg (encYd (cutR f b l)).toArray)) := by
  have hn : b.ripe.length ≤ 12 := by have := hb.1; simp only [In] at this; omega
  have hkp := hf.2.2.2.2.2.1
  simp only [In] at hkp
  have hlen := hl.len
  refine enter (args := [.agg (encFt f).toArray, .agg (encBn b ao c).toArray, .slice lo l.length lc]) Try.func61 rfl Try.ntmps61 rfl (SH.refl _) ?_
  repeat' (first | refine rn ?_ | (apply TL_box; exact rfl; exact rfl; exact rfl; intro _ _) | (apply TL_alloc; exact rfl; intro _ _) | (apply TL_buildSlice; exact rfl; exact rfl; exact rfl; exact rfl; exact rfl; intro _ _))
  rename_i b3 _ b4 _ b6 _ b7 _
  refine TC_loop (σ := Nat) (fun k => k ≤ b.ripe.length) (fun k => [(2, .slice lo l.length lc), (3, .pointer (some ⟨b3, 0, none⟩)), (4, .pointer (some ⟨b4, 0, none⟩)), (6, .pointer (some ⟨b6, 0, none⟩)), (7, .pointer (some ⟨b7, 0, none⟩)), (8, .int .i64 b.ripe.length), (9, .int .i64 k)])
    (fun k => [(b7, .cells (encYd (cutK f b l k)) 55), (b6, .cells (encYd zeroYd) 55), (b4, .cells (encBn b ao c) 46), (b3, .cells (encFt f) 43)]) (fun k => b.ripe.length - k) 0 (Nat.zero_le _) sb (fun w h => h) (fun i hi => ?_)
  repeat' (first | refine rn ?_ | (apply TL_box; exact rfl; exact rfl; exact rfl; intro _ _) | (apply TL_alloc; exact rfl; intro _ _) | (apply TL_buildSlice; exact rfl; exact rfl; exact rfl; exact rfl; exact rfl; intro _ _))
  refine TC_cond_dec rfl (fun h1 => ?_) (fun h1 => ?_)
  rotate_left
  · have hkl : i = b.ripe.length := by omega
    subst hkl
    repeat' (first | refine rn ?_ | (apply TL_box; exact rfl; exact rfl; exact rfl; intro _ _) | (apply TL_alloc; exact rfl; intro _ _) | (apply TL_buildSlice; exact rfl; exact rfl; exact rfl; exact rfl; exact rfl; intro _ _))
    exact TQ_ret1 Try.results61 (RV.celln rfl mm (by rfl)) (fun w' hs => ⟨rfl, hs.below⟩)
  have hj : i < b.ripe.length := by omega
  obtain ⟨s, hs⟩ : ∃ s, b.ripe[i]? = some s := ⟨_, List.getElem?_eq_getElem hj⟩
  have hsm : s ∈ b.ripe := List.mem_of_getElem? hs
  have hB := birdB (l := l) hf hb hn hj hsm
  have hy := cutK_B (l := l) hf hb i (by omega)
  have hnext : cutK f b l (i + 1) = stepY f b l (cutK f b l i) i s := by
    rw [cutK, List.getD_eq_getElem?_getD, hs]; rfl
  have ht := takenR_in hB
  have hlf := leftR_in hB
  generalize cutK f b l i = y at *
  repeat' (first | refine rn ?_ | (apply TL_box; exact rfl; exact rfl; exact rfl; intro _ _) | (apply TL_alloc; exact rfl; intro _ _) | (apply TL_buildSlice; exact rfl; exact rfl; exact rfl; exact rfl; exact rfl; intro _ _))
  -- the cut that comes first
  refine TC_loop (σ := Nat) (fun j => j ≤ l.length) (fun j => [(2, .slice lo l.length lc), (3, .pointer (some ⟨b3, 0, none⟩)), (4, .pointer (some ⟨b4, 0, none⟩)), (6, .pointer (some ⟨b6, 0, none⟩)), (7, .pointer (some ⟨b7, 0, none⟩)), (8, .int .i64 b.ripe.length), (9, .int .i64 i), (10, .int .i64 ((cutAt (l.drop j) i).getD (-1))), (11, .int .i64 ((j : Int) - 1))])
    (fun _ => [(b7, .cells (encYd y) 55), (b6, .cells (encYd zeroYd) 55), (b4, .cells (encBn b ao c) 46), (b3, .cells (encFt f) 43)]) (fun j => j) l.length (Nat.le_refl _) (by rw [List.drop_length]; exact sb) (fun w h => h) (fun j hjl => ?_)
  repeat' (first | refine rn ?_ | (apply TL_box; exact rfl; exact rfl; exact rfl; intro _ _) | (apply TL_alloc; exact rfl; intro _ _) | (apply TL_buildSlice; exact rfl; exact rfl; exact rfl; exact rfl; exact rfl; intro _ _))
  refine TC_cond_dec rfl (fun h2 => ?_) (fun h2 => ?_)
  · obtain ⟨j, rfl⟩ : ∃ k, j = k + 1 := ⟨j - 1, by omega⟩
    obtain ⟨x, hx⟩ : ∃ x, l[j]? = some x := ⟨_, List.getElem?_eq_getElem (by omega)⟩
    have hdrop : l.drop j = x :: l.drop (j + 1) := by
      rw [List.drop_eq_getElem_cons (by omega)]; congr 1
      rw [List.getElem?_eq_getElem (by omega)] at hx; cases hx; rfl
    have hcut : cutAt (l.drop j) i = if (i : Int) ≤ x then some x else cutAt (l.drop (j + 1)) i := by rw [hdrop, cutAt_cons]
    repeat' (first | refine rn ?_ | (apply TL_box; exact rfl; exact rfl; exact rfl; intro _ _) | (apply TL_alloc; exact rfl; intro _ _) | (apply TL_buildSlice; exact rfl; exact rfl; exact rfl; exact rfl; exact rfl; intro _ _))
    refine TL_index j rfl rfl rfl (fun w h => h.sl hal) (by omega) (by omega) (Nat.le_refl _) ?_
    refine TL_load_el1 (u := x) rfl rfl (fun w h => h.sl hal) hx rfl ?_
    repeat' (first | refine rn ?_ | (apply TL_box; exact rfl; exact rfl; exact rfl; intro _ _) | (apply TL_alloc; exact rfl; intro _ _) | (apply TL_buildSlice; exact rfl; exact rfl; exact rfl; exact rfl; exact rfl; intro _ _))
    refine TC_cond_dec rfl (fun h3 => ?_) (fun h3 => ?_)
    · repeat' (first | refine rn ?_ | (apply TL_box; exact rfl; exact rfl; exact rfl; intro _ _) | (apply TL_alloc; exact rfl; intro _ _) | (apply TL_buildSlice; exact rfl; exact rfl; exact rfl; exact rfl; exact rfl; intro _ _))
      refine TL_index j rfl rfl rfl (fun w h => h.sl hal) (by omega) (by omega) (Nat.le_refl _) ?_
      refine TL_load_el1 (u := x) rfl rfl (fun w h => h.sl hal) hx rfl ?_
      repeat' (first | refine rn ?_ | (apply TL_box; exact rfl; exact rfl; exact rfl; intro _ _) | (apply TL_alloc; exact rfl; intro _ _) | (apply TL_buildSlice; exact rfl; exact rfl; exact rfl; exact rfl; exact rfl; intro _ _))
      rw [if_pos h3] at hcut
      refine TQ_round j (by omega) (by omega) (by rw [hcut, show ((j : Int) - 1) = ((j + 1 : Nat) : Int) - 1 - 1 by omega]; exact sb) (fun w h => h)
    · repeat' (first | refine rn ?_ | (apply TL_box; exact rfl; exact rfl; exact rfl; intro _ _) | (apply TL_alloc; exact rfl; intro _ _) | (apply TL_buildSlice; exact rfl; exact rfl; exact rfl; exact rfl; exact rfl; intro _ _))
      rw [if_neg h3] at hcut
      refine TQ_round j (by omega) (by omega) (by rw [hcut, show ((j : Int) - 1) = ((j + 1 : Nat) : Int) - 1 - 1 by omega]; exact sb) (fun w h => h)
  obtain rfl : j = 0 := by omega
  rw [List.drop_zero]
  iterate 7 refine r1 ?_
  have hrest : restR f b.ripe.length i = if f.keep < (b.ripe.length : Int) - 1 - i then (1, f.keep + 1) else (2, (b.ripe.length : Int) - 1 - i) := rfl
  refine TC_join (σ := Bool) (fun p => (p = true → ∃ cv, cutAt l i = some cv ∧ In cv i 1000000 ∧ fateR f b.ripe.length l i = (0, cv - i)) ∧ (p = false → fateR f b.ripe.length l i = restR f b.ripe.length i)) (fun p => [(2, .slice lo l.length lc), (3, .pointer (some ⟨b3, 0, none⟩)), (4, .pointer (some ⟨b4, 0, none⟩)), (6, .pointer (some ⟨b6, 0, none⟩)), (7, .pointer (some ⟨b7, 0, none⟩)), (8, .int .i64 b.ripe.length), (9, .int .i64 i), (10, .int .i64 ((cutAt l i).getD (-1))), (57, .bool p)])
    (fun _ => [(b7, .cells (encYd y) 55), (b6, .cells (encYd zeroYd) 55), (b4, .cells (encBn b ao c) 46), (b3, .cells (encFt f) 43)]) ?_ (fun p hpp => ?_)
  · cases hc : cutAt l i with
    | none =>
      dsimp only [Option.getD]
      repeat' (first | (refine TL_geq_f rfl rfl rfl (by omega) ?_) | refine r1 ?_ | (apply TL_box; exact rfl; exact rfl; exact rfl; intro _ _) | (apply TL_alloc; exact rfl; intro _ _) | (apply TL_buildSlice; exact rfl; exact rfl; exact rfl; exact rfl; exact rfl; intro _ _))
      refine TQ_mid false ⟨fun h => (by cases h), fun _ => ?_⟩ sb (fun w h => h)
      unfold fateR; rw [hc]
    | some cv =>
      have h5 : (i : Int) ≤ cv := by
        have := List.find?_some hc
        simpa using this
      have h6 := hl.inn cv (List.mem_of_find?_eq_some hc)
      dsimp only [Option.getD]
      repeat' (first | (refine TL_geq_t rfl rfl rfl (by omega) ?_) | refine r1 ?_ | (apply TL_box; exact rfl; exact rfl; exact rfl; intro _ _) | (apply TL_alloc; exact rfl; intro _ _) | (apply TL_buildSlice; exact rfl; exact rfl; exact rfl; exact rfl; exact rfl; intro _ _))
      refine TQ_mid (decide (cv - i ≤ f.keep)) ⟨fun h => ⟨cv, rfl, ⟨by omega, by omega⟩, ?_⟩, fun h => ?_⟩ sb (fun w h => h)
      · unfold fateR; rw [hc]; exact if_pos (of_decide_eq_true h)
      · unfold fateR; rw [hc]; exact if_neg (of_decide_eq_false h)
  repeat' (first | refine rn ?_ | (apply TL_box; exact rfl; exact rfl; exact rfl; intro _ _) | (apply TL_alloc; exact rfl; intro _ _) | (apply TL_buildSlice; exact rfl; exact rfl; exact rfl; exact rfl; exact rfl; intro _ _))
  refine TC_cond rfl (fun h4 => ?_) (fun h4 => ?_)
  · obtain ⟨cv, hcv, hcin, hfate⟩ := hpp.1 h4
    have hd : In (cv - i) 0 30 := by
      rcases fate_cases (l := l) hf hn hj with h | h
      · rw [hfate] at h; exact h.2
      · rw [hfate] at h; rcases h.1 with h | h <;> cases h
    rw [hfate] at hB ht hlf
    rw [hcv]
    simp only [In] at hcin
    have hdb := dayB hf hd
    obtain ⟨a, n, e1, e2, e3, e4, e5, e6⟩ := g_range hf hdb hd.1
    have c57' := fun w => c57 f (cv - i) hdb w
    rw [e1, e2] at c57'
    have hw := worthB hf hdb hd.1 hlf
    have hsome : someP f (cv - i) = ((prL f).drop a).take n := by unfold someP; rw [e5, e6]
    rw [hsome, ← leastK_all f e3 e4, ← mostK_all f e3 e4] at hw
    have hy0 : YB { y with taken := addSp y.taken (takenR b s (cv - i)) } 10000000000 := by
      have h0 := hy.mono (show 200000000 * (i : Int) ≤ 10000000000 by omega)
      exact { h0 with taken := addSp_in hy.taken ht (by omega) }
    have hB2 := fun k => addGs_B (a := a) (one := decide (n = 1)) hy0 hlf k
    have hpick : pickR f { y with taken := addSp y.taken (takenR b s (cv - i)) } (leftR b s (cv - i)) (cv - i) = { addGs { y with taken := addSp y.taken (takenR b s (cv - i)) } a (leftR b s (cv - i)) (decide (n = 1)) n with worth := addSp (addGs { y with taken := addSp y.taken (takenR b s (cv - i)) } a (leftR b s (cv - i)) (decide (n = 1)) n).worth (leastK f a n n * (leftR b s (cv - i)).1, mostK f a n n * (leftR b s (cv - i)).2) } := by
      simp only [pickR, e5, e6, hsome, leastK_all f e3 e4, mostK_all f e3 e4]
    dsimp only at hB ht hlf hw
    have hyt := hy.taken
    simp only [InS] at ht hlf hyt
    dsimp only [Option.getD]
    repeat' (first | refine rn ?_ | (apply TL_box; exact rfl; exact rfl; exact rfl; intro _ _) | (apply TL_alloc; exact rfl; intro _ _) | (apply TL_buildSlice; exact rfl; exact rfl; exact rfl; exact rfl; exact rfl; intro _ _))
    apply TC_draw3 15 12; kernel_rfl; exact Try.mixed
    · iterate 4 (refine' pv ?_; rotate_left)
      (refine' PG.val rfl rfl (by intro _X; refine TL_index i rfl rfl rfl (fun w h => h.sl ha) rfl hj (Nat.le_refl _) ?_; exact qe) ?_; rotate_left)
      (refine' PG.val rfl rfl (by intro _X; refine TL_load_eln (u := s) rfl rfl (fun w h => h.sl ha) hs rfl ?_; exact qe) ?_; rotate_left)
      iterate 3 (refine' pv ?_; rotate_left)
      (refine' PG.val rfl rfl (by intro _X; refine TL_callV rfl rfl rfl (fun w _ => c86 b ao c s (cv - i) hB w) ?_; exact qe) ?_; rotate_left)
      iterate 3 (refine' pv ?_; rotate_left)
      iterate 2 (refine' pn ?_; rotate_left)
      exact PG.nil
    · rintro _ _ ⟨b10, _, rfl, rfl⟩ _ _ ⟨b9, _, rfl, rfl⟩; change TL _ _ _ _ _ _ _ _ _ _ _; refine r1 ?_; exact TL_nil TQ_endN
    rintro _ _ ⟨b10, _, rfl, rfl⟩ _ _ ⟨b9, _, rfl, rfl⟩
    change TL _ _ _ _ _ _ _ _ _ _ _
    repeat' (first | refine rn ?_ | (apply TL_box; exact rfl; exact rfl; exact rfl; intro _ _) | (apply TL_alloc; exact rfl; intro _ _) | (apply TL_buildSlice; exact rfl; exact rfl; exact rfl; exact rfl; exact rfl; intro _ _))
    refine TL_callV rfl rfl rfl (fun w _ => c74 y.taken (takenR b s (cv - i)) w (by omega) (by omega) (by omega) (by omega)) ?_
    repeat' (first | refine rn ?_ | (apply TL_box; exact rfl; exact rfl; exact rfl; intro _ _) | (apply TL_alloc; exact rfl; intro _ _) | (apply TL_buildSlice; exact rfl; exact rfl; exact rfl; exact rfl; exact rfl; intro _ _))
    refine TL_callV rfl rfl rfl (fun w _ => c57' w) ?_
    repeat' (first | refine rn ?_ | (apply TL_box; exact rfl; exact rfl; exact rfl; intro _ _) | (apply TL_alloc; exact rfl; intro _ _) | (apply TL_buildSlice; exact rfl; exact rfl; exact rfl; exact rfl; exact rfl; intro _ _))
    apply TC_draw 10; kernel_rfl; exact Try.mixed
    · iterate 2 (refine' pv ?_; rotate_left)
      (refine' PG.val rfl rfl (by intro _X; refine TL_indexAddrA a rfl rfl rfl rfl (by omega) ?_; exact qe) ?_; rotate_left)
      (refine' PG.val rfl rfl (by intro _X; refine TL_load1 rfl rfl mm (price f a (by omega)) ?_; exact qe) ?_; rotate_left)
      iterate 2 (refine' pv ?_; rotate_left)
      (refine' PG.val rfl rfl (by intro _X; refine TL_indexAddrA a rfl rfl rfl rfl (by omega) ?_; exact qe) ?_; rotate_left)
      (refine' PG.val rfl rfl (by intro _X; refine TL_load1 rfl rfl mm (price f a (by omega)) ?_; exact qe) ?_; rotate_left)
      iterate 2 (refine' pv ?_; rotate_left)
      exact PG.nil
    change TL _ _ _ _ _ _ _ _ _ _ _
    repeat' (first | refine rn ?_ | (apply TL_box; exact rfl; exact rfl; exact rfl; intro _ _) | (apply TL_alloc; exact rfl; intro _ _) | (apply TL_buildSlice; exact rfl; exact rfl; exact rfl; exact rfl; exact rfl; intro _ _))
    refine TC_loop (σ := Nat) (fun k => k ≤ n) (fun k => [(2, .slice lo l.length lc), (3, .pointer (some ⟨b3, 0, none⟩)), (4, .pointer (some ⟨b4, 0, none⟩)), (6, .pointer (some ⟨b6, 0, none⟩)), (7, .pointer (some ⟨b7, 0, none⟩)), (8, .int .i64 b.ripe.length), (9, .int .i64 i), (13, .pointer (some ⟨b10, 0, none⟩)), (14, .int .u8 a), (15, .int .u8 ((a : Int) + n - 1)), (16, .int .i64 (leastK f a n k)), (17, .int .i64 (mostK f a n k)), (18, .int .u8 ((a : Int) + k))])
      (fun k => [(b10, .cells (encSp (leftR b s (cv - i))) 23), (b7, .cells (encYd (addGs { y with taken := addSp y.taken (takenR b s (cv - i)) } a (leftR b s (cv - i)) (decide (n = 1)) k)) 55), (b6, .cells (encYd zeroYd) 55), (b4, .cells (encBn b ao c) 46), (b3, .cells (encFt f) 43)]) (fun k => n - k) 0 (Nat.zero_le _) (Sub.cons rfl (Sub.cons rfl (Sub.cons rfl (Sub.cons rfl (Sub.cons rfl (Sub.cons rfl (Sub.cons rfl (Sub.cons rfl (Sub.cons rfl (Sub.cons rfl (Sub.cons rfl (Sub.cons rfl (Sub.cons (by simp [lk]) (Sub.nil _)))))))))))))) (fun w h => h.sub (by repeat (first | exact List.Sublist.refl _ | apply List.Sublist.cons_cons | apply List.Sublist.cons))) (fun k hk => ?_)
    have hBk := hB2 k
    obtain ⟨⟨q1, q2⟩, ⟨q3, q4⟩, ⟨q5, q6⟩, _, _, _, hwB⟩ := hBk
    have hk10 : k ≤ 3 := by omega
    have hnextk : addGs { y with taken := addSp y.taken (takenR b s (cv - i)) } a (leftR b s (cv - i)) (decide (n = 1)) (k + 1) = addG (addGs { y with taken := addSp y.taken (takenR b s (cv - i)) } a (leftR b s (cv - i)) (decide (n = 1)) k) (a + k) (leftR b s (cv - i)) (decide (n = 1)) := rfl
    have hls := leastK_succ f (a := a) (n := n) (k := k)
    have hms := mostK_succ f (a := a) (n := n) (k := k)
    repeat' (first | refine rn ?_ | (apply TL_box; exact rfl; exact rfl; exact rfl; intro _ _) | (apply TL_alloc; exact rfl; intro _ _) | (apply TL_buildSlice; exact rfl; exact rfl; exact rfl; exact rfl; exact rfl; intro _ _))
    refine TC_cond_dec rfl (fun h5 => ?_) (fun h5 => ?_)
    · have hlt : k < n := by omega
      generalize addGs { y with taken := addSp y.taken (takenR b s (cv - i)) } a (leftR b s (cv - i)) (decide (n = 1)) k = yk at *
      have hi2 : a + k = 0 ∨ a + k = 1 ∨ a + k = 2 := by omega
      have hw8 : IntKind.u8.wrap ((a : Int) + k + 1) = (a : Int) + ((k + 1 : Nat) : Int) := by rw [wrap_u8_of (by omega)]; omega
      repeat' (first | refine rn ?_ | (apply TL_box; exact rfl; exact rfl; exact rfl; intro _ _) | (apply TL_alloc; exact rfl; intro _ _) | (apply TL_buildSlice; exact rfl; exact rfl; exact rfl; exact rfl; exact rfl; intro _ _))
      rcases hi2 with hi2 | hi2 | hi2
      · rw [hi2] at hnextk
        refine TC_cond_dec rfl (fun h6 => ?_) (fun h6 => ?_)
        · have hn1 : n = 1 := by omega
          repeat' (first | refine rn ?_ | (apply TL_box; exact rfl; exact rfl; exact rfl; intro _ _) | (apply TL_alloc; exact rfl; intro _ _) | (apply TL_buildSlice; exact rfl; exact rfl; exact rfl; exact rfl; exact rfl; intro _ _))
          apply TC_draw 11; kernel_rfl; exact Try.mixed
          · iterate 2 (refine' pv ?_; rotate_left)
            (refine' PG.val rfl rfl (by intro _X; refine TL_indexAddrA 0 rfl rfl rfl (by omega) (by omega) ?_; exact qe) ?_; rotate_left)
            iterate 6 (refine' pv ?_; rotate_left)
            (refine' PG.val rfl rfl (by intro _X; refine TL_indexAddrA 0 rfl rfl rfl (by omega) (by omega) ?_; exact qe) ?_; rotate_left)
            (refine' pv ?_; rotate_left)
            exact PG.nil
          change TL _ _ _ _ _ _ _ _ _ _ _
          repeat' (first | refine rn ?_ | (apply TL_box; exact rfl; exact rfl; exact rfl; intro _ _) | (apply TL_alloc; exact rfl; intro _ _) | (apply TL_buildSlice; exact rfl; exact rfl; exact rfl; exact rfl; exact rfl; intro _ _))
          apply TC_draw 11; kernel_rfl; exact Try.mixed
          · iterate 2 (refine' pv ?_; rotate_left)
            (refine' PG.val rfl rfl (by intro _X; refine TL_indexAddrA 0 rfl rfl rfl (by omega) (by omega) ?_; exact qe) ?_; rotate_left)
            iterate 6 (refine' pv ?_; rotate_left)
            (refine' PG.val rfl rfl (by intro _X; refine TL_indexAddrA 0 rfl rfl rfl (by omega) (by omega) ?_; exact qe) ?_; rotate_left)
            (refine' pv ?_; rotate_left)
            exact PG.nil
          change TL _ _ _ _ _ _ _ _ _ _ _
          repeat' (first | refine rn ?_ | (apply TL_box; exact rfl; exact rfl; exact rfl; intro _ _) | (apply TL_alloc; exact rfl; intro _ _) | (apply TL_buildSlice; exact rfl; exact rfl; exact rfl; exact rfl; exact rfl; intro _ _))
          apply TC_draw 14; kernel_rfl; exact Try.mixed
          · iterate 3 (refine' pv ?_; rotate_left)
            (refine' PG.val rfl rfl (by intro _X; refine TL_indexAddrA (a + k) rfl rfl rfl (by omega) (by omega) ?_; exact qe) ?_; rotate_left)
            (refine' PG.val rfl rfl (by intro _X; refine TL_load1 rfl rfl mm (price f (a + k) (by omega)) ?_; exact qe) ?_; rotate_left)
            iterate 4 (refine' pv ?_; rotate_left)
            (refine' PG.val rfl rfl (by intro _X; refine TL_indexAddrA (a + k) rfl rfl rfl (by omega) (by omega) ?_; exact qe) ?_; rotate_left)
            (refine' PG.val rfl rfl (by intro _X; refine TL_load1 rfl rfl mm (price f (a + k) (by omega)) ?_; exact qe) ?_; rotate_left)
            iterate 3 (refine' pv ?_; rotate_left)
            exact PG.nil
          change TL _ _ _ _ _ _ _ _ _ _ _
          repeat' (first | refine rn ?_ | (apply TL_box; exact rfl; exact rfl; exact rfl; intro _ _) | (apply TL_alloc; exact rfl; intro _ _) | (apply TL_buildSlice; exact rfl; exact rfl; exact rfl; exact rfl; exact rfl; intro _ _))
          refine TL_addw rfl rfl rfl ?_
          rw [hw8]
          repeat' (first | refine rn ?_ | (apply TL_box; exact rfl; exact rfl; exact rfl; intro _ _) | (apply TL_alloc; exact rfl; intro _ _) | (apply TL_buildSlice; exact rfl; exact rfl; exact rfl; exact rfl; exact rfl; intro _ _))
          refine TQ_round (k + 1) hlt (by omega) (by rw [hls hlt e4, hms hlt e4]; exact sb) (fun w h => ?_)
          rw [hnextk, decide_eq_true hn1]; exact h
        · have hn1 : ¬ n = 1 := by omega
          repeat' (first | refine rn ?_ | (apply TL_box; exact rfl; exact rfl; exact rfl; intro _ _) | (apply TL_alloc; exact rfl; intro _ _) | (apply TL_buildSlice; exact rfl; exact rfl; exact rfl; exact rfl; exact rfl; intro _ _))
          apply TC_draw 11; kernel_rfl; exact Try.mixed
          · iterate 2 (refine' pv ?_; rotate_left)
            (refine' PG.val rfl rfl (by intro _X; refine TL_indexAddrA 0 rfl rfl rfl (by omega) (by omega) ?_; exact qe) ?_; rotate_left)
            iterate 6 (refine' pv ?_; rotate_left)
            (refine' PG.val rfl rfl (by intro _X; refine TL_indexAddrA 0 rfl rfl rfl (by omega) (by omega) ?_; exact qe) ?_; rotate_left)
            (refine' pv ?_; rotate_left)
            exact PG.nil
          change TL _ _ _ _ _ _ _ _ _ _ _
          repeat' (first | refine rn ?_ | (apply TL_box; exact rfl; exact rfl; exact rfl; intro _ _) | (apply TL_alloc; exact rfl; intro _ _) | (apply TL_buildSlice; exact rfl; exact rfl; exact rfl; exact rfl; exact rfl; intro _ _))
          apply TC_draw 14; kernel_rfl; exact Try.mixed
          · iterate 3 (refine' pv ?_; rotate_left)
            (refine' PG.val rfl rfl (by intro _X; refine TL_indexAddrA (a + k) rfl rfl rfl (by omega) (by omega) ?_; exact qe) ?_; rotate_left)
            (refine' PG.val rfl rfl (by intro _X; refine TL_load1 rfl rfl mm (price f (a + k) (by omega)) ?_; exact qe) ?_; rotate_left)
            iterate 4 (refine' pv ?_; rotate_left)
            (refine' PG.val rfl rfl (by intro _X; refine TL_indexAddrA (a + k) rfl rfl rfl (by omega) (by omega) ?_; exact qe) ?_; rotate_left)
            (refine' PG.val rfl rfl (by intro _X; refine TL_load1 rfl rfl mm (price f (a + k) (by omega)) ?_; exact qe) ?_; rotate_left)
            iterate 3 (refine' pv ?_; rotate_left)
            exact PG.nil
          change TL _ _ _ _ _ _ _ _ _ _ _
          repeat' (first | refine rn ?_ | (apply TL_box; exact rfl; exact rfl; exact rfl; intro _ _) | (apply TL_alloc; exact rfl; intro _ _) | (apply TL_buildSlice; exact rfl; exact rfl; exact rfl; exact rfl; exact rfl; intro _ _))
          refine TL_addw rfl rfl rfl ?_
          rw [hw8]
          repeat' (first | refine rn ?_ | (apply TL_box; exact rfl; exact rfl; exact rfl; intro _ _) | (apply TL_alloc; exact rfl; intro _ _) | (apply TL_buildSlice; exact rfl; exact rfl; exact rfl; exact rfl; exact rfl; intro _ _))
          refine TQ_round (k + 1) hlt (by omega) (by rw [hls hlt e4, hms hlt e4]; exact sb) (fun w h => ?_)
          rw [hnextk, decide_eq_false hn1]; exact h
      · rw [hi2] at hnextk
        refine TC_cond_dec rfl (fun h6 => ?_) (fun h6 => ?_)
        · have hn1 : n = 1 := by omega
          repeat' (first | refine rn ?_ | (apply TL_box; exact rfl; exact rfl; exact rfl; intro _ _) | (apply TL_alloc; exact rfl; intro _ _) | (apply TL_buildSlice; exact rfl; exact rfl; exact rfl; exact rfl; exact rfl; intro _ _))
          apply TC_draw 11; kernel_rfl; exact Try.mixed
          · iterate 2 (refine' pv ?_; rotate_left)
            (refine' PG.val rfl rfl (by intro _X; refine TL_indexAddrA 1 rfl rfl rfl (by omega) (by omega) ?_; exact qe) ?_; rotate_left)
            iterate 6 (refine' pv ?_; rotate_left)
            (refine' PG.val rfl rfl (by intro _X; refine TL_indexAddrA 1 rfl rfl rfl (by omega) (by omega) ?_; exact qe) ?_; rotate_left)
            (refine' pv ?_; rotate_left)
            exact PG.nil
          change TL _ _ _ _ _ _ _ _ _ _ _
          repeat' (first | refine rn ?_ | (apply TL_box; exact rfl; exact rfl; exact rfl; intro _ _) | (apply TL_alloc; exact rfl; intro _ _) | (apply TL_buildSlice; exact rfl; exact rfl; exact rfl; exact rfl; exact rfl; intro _ _))
          apply TC_draw 11; kernel_rfl; exact Try.mixed
          · iterate 2 (refine' pv ?_; rotate_left)
            (refine' PG.val rfl rfl (by intro _X; refine TL_indexAddrA 1 rfl rfl rfl (by omega) (by omega) ?_; exact qe) ?_; rotate_left)
            iterate 6 (refine' pv ?_; rotate_left)
            (refine' PG.val rfl rfl (by intro _X; refine TL_indexAddrA 1 rfl rfl rfl (by omega) (by omega) ?_; exact qe) ?_; rotate_left)
            (refine' pv ?_; rotate_left)
            exact PG.nil
          change TL _ _ _ _ _ _ _ _ _ _ _
          repeat' (first | refine rn ?_ | (apply TL_box; exact rfl; exact rfl; exact rfl; intro _ _) | (apply TL_alloc; exact rfl; intro _ _) | (apply TL_buildSlice; exact rfl; exact rfl; exact rfl; exact rfl; exact rfl; intro _ _))
          apply TC_draw 14; kernel_rfl; exact Try.mixed
          · iterate 3 (refine' pv ?_; rotate_left)
            (refine' PG.val rfl rfl (by intro _X; refine TL_indexAddrA (a + k) rfl rfl rfl (by omega) (by omega) ?_; exact qe) ?_; rotate_left)
            (refine' PG.val rfl rfl (by intro _X; refine TL_load1 rfl rfl mm (price f (a + k) (by omega)) ?_; exact qe) ?_; rotate_left)
            iterate 4 (refine' pv ?_; rotate_left)
            (refine' PG.val rfl rfl (by intro _X; refine TL_indexAddrA (a + k) rfl rfl rfl (by omega) (by omega) ?_; exact qe) ?_; rotate_left)
            (refine' PG.val rfl rfl (by intro _X; refine TL_load1 rfl rfl mm (price f (a + k) (by omega)) ?_; exact qe) ?_; rotate_left)
            iterate 3 (refine' pv ?_; rotate_left)
            exact PG.nil
          change TL _ _ _ _ _ _ _ _ _ _ _
          repeat' (first | refine rn ?_ | (apply TL_box; exact rfl; exact rfl; exact rfl; intro _ _) | (apply TL_alloc; exact rfl; intro _ _) | (apply TL_buildSlice; exact rfl; exact rfl; exact rfl; exact rfl; exact rfl; intro _ _))
          refine TL_addw rfl rfl rfl ?_
          rw [hw8]
          repeat' (first | refine rn ?_ | (apply TL_box; exact rfl; exact rfl; exact rfl; intro _ _) | (apply TL_alloc; exact rfl; intro _ _) | (apply TL_buildSlice; exact rfl; exact rfl; exact rfl; exact rfl; exact rfl; intro _ _))
          refine TQ_round (k + 1) hlt (by omega) (by rw [hls hlt e4, hms hlt e4]; exact sb) (fun w h => ?_)
          rw [hnextk, decide_eq_true hn1]; exact h
        · have hn1 : ¬ n = 1 := by omega
          repeat' (first | refine rn ?_ | (apply TL_box; exact rfl; exact rfl; exact rfl; intro _ _) | (apply TL_alloc; exact rfl; intro _ _) | (apply TL_buildSlice; exact rfl; exact rfl; exact rfl; exact rfl; exact rfl; intro _ _))
          apply TC_draw 11; kernel_rfl; exact Try.mixed
          · iterate 2 (refine' pv ?_; rotate_left)
            (refine' PG.val rfl rfl (by intro _X; refine TL_indexAddrA 1 rfl rfl rfl (by omega) (by omega) ?_; exact qe) ?_; rotate_left)
            iterate 6 (refine' pv ?_; rotate_left)
            (refine' PG.val rfl rfl (by intro _X; refine TL_indexAddrA 1 rfl rfl rfl (by omega) (by omega) ?_; exact qe) ?_; rotate_left)
            (refine' pv ?_; rotate_left)
            exact PG.nil
          change TL _ _ _ _ _ _ _ _ _ _ _
          repeat' (first | refine rn ?_ | (apply TL_box; exact rfl; exact rfl; exact rfl; intro _ _) | (apply TL_alloc; exact rfl; intro _ _) | (apply TL_buildSlice; exact rfl; exact rfl; exact rfl; exact rfl; exact rfl; intro _ _))
          apply TC_draw 14; kernel_rfl; exact Try.mixed
          · iterate 3 (refine' pv ?_; rotate_left)
            (refine' PG.val rfl rfl (by intro _X; refine TL_indexAddrA (a + k) rfl rfl rfl (by omega) (by omega) ?_; exact qe) ?_; rotate_left)
            (refine' PG.val rfl rfl (by intro _X; refine TL_load1 rfl rfl mm (price f (a + k) (by omega)) ?_; exact qe) ?_; rotate_left)
            iterate 4 (refine' pv ?_; rotate_left)
            (refine' PG.val rfl rfl (by intro _X; refine TL_indexAddrA (a + k) rfl rfl rfl (by omega) (by omega) ?_; exact qe) ?_; rotate_left)
            (refine' PG.val rfl rfl (by intro _X; refine TL_load1 rfl rfl mm (price f (a + k) (by omega)) ?_; exact qe) ?_; rotate_left)
            iterate 3 (refine' pv ?_; rotate_left)
            exact PG.nil
          change TL _ _ _ _ _ _ _ _ _ _ _
          repeat' (first | refine rn ?_ | (apply TL_box; exact rfl; exact rfl; exact rfl; intro _ _) | (apply TL_alloc; exact rfl; intro _ _) | (apply TL_buildSlice; exact rfl; exact rfl; exact rfl; exact rfl; exact rfl; intro _ _))
          refine TL_addw rfl rfl rfl ?_
          rw [hw8]
          repeat' (first | refine rn ?_ | (apply TL_box; exact rfl; exact rfl; exact rfl; intro _ _) | (apply TL_alloc; exact rfl; intro _ _) | (apply TL_buildSlice; exact rfl; exact rfl; exact rfl; exact rfl; exact rfl; intro _ _))
          refine TQ_round (k + 1) hlt (by omega) (by rw [hls hlt e4, hms hlt e4]; exact sb) (fun w h => ?_)
          rw [hnextk, decide_eq_false hn1]; exact h
      · rw [hi2] at hnextk
        refine TC_cond_dec rfl (fun h6 => ?_) (fun h6 => ?_)
        · have hn1 : n = 1 := by omega
          repeat' (first | refine rn ?_ | (apply TL_box; exact rfl; exact rfl; exact rfl; intro _ _) | (apply TL_alloc; exact rfl; intro _ _) | (apply TL_buildSlice; exact rfl; exact rfl; exact rfl; exact rfl; exact rfl; intro _ _))
          apply TC_draw 11; kernel_rfl; exact Try.mixed
          · iterate 2 (refine' pv ?_; rotate_left)
            (refine' PG.val rfl rfl (by intro _X; refine TL_indexAddrA 2 rfl rfl rfl (by omega) (by omega) ?_; exact qe) ?_; rotate_left)
            iterate 6 (refine' pv ?_; rotate_left)
            (refine' PG.val rfl rfl (by intro _X; refine TL_indexAddrA 2 rfl rfl rfl (by omega) (by omega) ?_; exact qe) ?_; rotate_left)
            (refine' pv ?_; rotate_left)
            exact PG.nil
          change TL _ _ _ _ _ _ _ _ _ _ _
          repeat' (first | refine rn ?_ | (apply TL_box; exact rfl; exact rfl; exact rfl; intro _ _) | (apply TL_alloc; exact rfl; intro _ _) | (apply TL_buildSlice; exact rfl; exact rfl; exact rfl; exact rfl; exact rfl; intro _ _))
          apply TC_draw 11; kernel_rfl; exact Try.mixed
          · iterate 2 (refine' pv ?_; rotate_left)
            (refine' PG.val rfl rfl (by intro _X; refine TL_indexAddrA 2 rfl rfl rfl (by omega) (by omega) ?_; exact qe) ?_; rotate_left)
            iterate 6 (refine' pv ?_; rotate_left)
            (refine' PG.val rfl rfl (by intro _X; refine TL_indexAddrA 2 rfl rfl rfl (by omega) (by omega) ?_; exact qe) ?_; rotate_left)
            (refine' pv ?_; rotate_left)
            exact PG.nil
          change TL _ _ _ _ _ _ _ _ _ _ _
          repeat' (first | refine rn ?_ | (apply TL_box; exact rfl; exact rfl; exact rfl; intro _ _) | (apply TL_alloc; exact rfl; intro _ _) | (apply TL_buildSlice; exact rfl; exact rfl; exact rfl; exact rfl; exact rfl; intro _ _))
          apply TC_draw 14; kernel_rfl; exact Try.mixed
          · iterate 3 (refine' pv ?_; rotate_left)
            (refine' PG.val rfl rfl (by intro _X; refine TL_indexAddrA (a + k) rfl rfl rfl (by omega) (by omega) ?_; exact qe) ?_; rotate_left)
            (refine' PG.val rfl rfl (by intro _X; refine TL_load1 rfl rfl mm (price f (a + k) (by omega)) ?_; exact qe) ?_; rotate_left)
            iterate 4 (refine' pv ?_; rotate_left)
            (refine' PG.val rfl rfl (by intro _X; refine TL_indexAddrA (a + k) rfl rfl rfl (by omega) (by omega) ?_; exact qe) ?_; rotate_left)
            (refine' PG.val rfl rfl (by intro _X; refine TL_load1 rfl rfl mm (price f (a + k) (by omega)) ?_; exact qe) ?_; rotate_left)
            iterate 3 (refine' pv ?_; rotate_left)
            exact PG.nil
          change TL _ _ _ _ _ _ _ _ _ _ _
          repeat' (first | refine rn ?_ | (apply TL_box; exact rfl; exact rfl; exact rfl; intro _ _) | (apply TL_alloc; exact rfl; intro _ _) | (apply TL_buildSlice; exact rfl; exact rfl; exact rfl; exact rfl; exact rfl; intro _ _))
          refine TL_addw rfl rfl rfl ?_
          rw [hw8]
          repeat' (first | refine rn ?_ | (apply TL_box; exact rfl; exact rfl; exact rfl; intro _ _) | (apply TL_alloc; exact rfl; intro _ _) | (apply TL_buildSlice; exact rfl; exact rfl; exact rfl; exact rfl; exact rfl; intro _ _))
          refine TQ_round (k + 1) hlt (by omega) (by rw [hls hlt e4, hms hlt e4]; exact sb) (fun w h => ?_)
          rw [hnextk, decide_eq_true hn1]; exact h
        · have hn1 : ¬ n = 1 := by omega
          repeat' (first | refine rn ?_ | (apply TL_box; exact rfl; exact rfl; exact rfl; intro _ _) | (apply TL_alloc; exact rfl; intro _ _) | (apply TL_buildSlice; exact rfl; exact rfl; exact rfl; exact rfl; exact rfl; intro _ _))
          apply TC_draw 11; kernel_rfl; exact Try.mixed
          · iterate 2 (refine' pv ?_; rotate_left)
            (refine' PG.val rfl rfl (by intro _X; refine TL_indexAddrA 2 rfl rfl rfl (by omega) (by omega) ?_; exact qe) ?_; rotate_left)
            iterate 6 (refine' pv ?_; rotate_left)
            (refine' PG.val rfl rfl (by intro _X; refine TL_indexAddrA 2 rfl rfl rfl (by omega) (by omega) ?_; exact qe) ?_; rotate_left)
            (refine' pv ?_; rotate_left)
            exact PG.nil
          change TL _ _ _ _ _ _ _ _ _ _ _
          repeat' (first | refine rn ?_ | (apply TL_box; exact rfl; exact rfl; exact rfl; intro _ _) | (apply TL_alloc; exact rfl; intro _ _) | (apply TL_buildSlice; exact rfl; exact rfl; exact rfl; exact rfl; exact rfl; intro _ _))
          apply TC_draw 14; kernel_rfl; exact Try.mixed
          · iterate 3 (refine' pv ?_; rotate_left)
            (refine' PG.val rfl rfl (by intro _X; refine TL_indexAddrA (a + k) rfl rfl rfl (by omega) (by omega) ?_; exact qe) ?_; rotate_left)
            (refine' PG.val rfl rfl (by intro _X; refine TL_load1 rfl rfl mm (price f (a + k) (by omega)) ?_; exact qe) ?_; rotate_left)
            iterate 4 (refine' pv ?_; rotate_left)
            (refine' PG.val rfl rfl (by intro _X; refine TL_indexAddrA (a + k) rfl rfl rfl (by omega) (by omega) ?_; exact qe) ?_; rotate_left)
            (refine' PG.val rfl rfl (by intro _X; refine TL_load1 rfl rfl mm (price f (a + k) (by omega)) ?_; exact qe) ?_; rotate_left)
            iterate 3 (refine' pv ?_; rotate_left)
            exact PG.nil
          change TL _ _ _ _ _ _ _ _ _ _ _
          repeat' (first | refine rn ?_ | (apply TL_box; exact rfl; exact rfl; exact rfl; intro _ _) | (apply TL_alloc; exact rfl; intro _ _) | (apply TL_buildSlice; exact rfl; exact rfl; exact rfl; exact rfl; exact rfl; intro _ _))
          refine TL_addw rfl rfl rfl ?_
          rw [hw8]
          repeat' (first | refine rn ?_ | (apply TL_box; exact rfl; exact rfl; exact rfl; intro _ _) | (apply TL_alloc; exact rfl; intro _ _) | (apply TL_buildSlice; exact rfl; exact rfl; exact rfl; exact rfl; exact rfl; intro _ _))
          refine TQ_round (k + 1) hlt (by omega) (by rw [hls hlt e4, hms hlt e4]; exact sb) (fun w h => ?_)
          rw [hnextk, decide_eq_false hn1]; exact h
    · obtain rfl : k = n := by omega
      generalize addGs { y with taken := addSp y.taken (takenR b s (cv - i)) } a (leftR b s (cv - i)) (decide (k = 1)) k = yk at *
      simp only [InS] at hwB
      obtain ⟨w1, w2⟩ := hw
      repeat' (first | refine rn ?_ | (apply TL_box; exact rfl; exact rfl; exact rfl; intro _ _) | (apply TL_alloc; exact rfl; intro _ _) | (apply TL_buildSlice; exact rfl; exact rfl; exact rfl; exact rfl; exact rfl; intro _ _))
      refine TL_callV rfl rfl rfl (fun w _ => c74 yk.worth (leastK f a k k * (leftR b s (cv - i)).1, mostK f a k k * (leftR b s (cv - i)).2) w (by omega) (by omega) (by dsimp only; omega) (by dsimp only; omega)) ?_
      repeat' (first | refine rn ?_ | (apply TL_box; exact rfl; exact rfl; exact rfl; intro _ _) | (apply TL_alloc; exact rfl; intro _ _) | (apply TL_buildSlice; exact rfl; exact rfl; exact rfl; exact rfl; exact rfl; intro _ _))
      refine TQ_round (i + 1) hj (by omega) sb (fun w h => ?_)
      rw [hnext]
      unfold stepY
      rw [hfate]
      dsimp only
      rw [if_pos rfl, hpick]
      exact h.sub (by repeat (first | exact List.Sublist.refl _ | apply List.Sublist.cons))
  · have hfate := hpp.2 h4
    rw [hfate] at hB ht hlf
    rw [hrest] at hfate hB ht hlf
    have hyt := hy.taken
    have hyf := hy.fallen
    have hyl := hy.left
    simp only [InS] at ht hlf hyt hyf hyl
    repeat' (first | refine rn ?_ | (apply TL_box; exact rfl; exact rfl; exact rfl; intro _ _) | (apply TL_alloc; exact rfl; intro _ _) | (apply TL_buildSlice; exact rfl; exact rfl; exact rfl; exact rfl; exact rfl; intro _ _))
    refine TC_cond_dec rfl (fun h5 => ?_) (fun h5 => ?_)
    · rw [if_pos (by omega)] at hfate hB ht hlf
      dsimp only at hB ht hlf
      repeat' (first | refine rn ?_ | (apply TL_box; exact rfl; exact rfl; exact rfl; intro _ _) | (apply TL_alloc; exact rfl; intro _ _) | (apply TL_buildSlice; exact rfl; exact rfl; exact rfl; exact rfl; exact rfl; intro _ _))

      apply TC_draw3 15 12; kernel_rfl; exact Try.mixed
      · iterate 4 (refine' pv ?_; rotate_left)
        (refine' PG.val rfl rfl (by intro _X; refine TL_index i rfl rfl rfl (fun w h => h.sl ha) rfl hj (Nat.le_refl _) ?_; exact qe) ?_; rotate_left)
        (refine' PG.val rfl rfl (by intro _X; refine TL_load_eln (u := s) rfl rfl (fun w h => h.sl ha) hs rfl ?_; exact qe) ?_; rotate_left)
        iterate 3 (refine' pv ?_; rotate_left)
        (refine' PG.val rfl rfl (by intro _X; refine TL_callV rfl rfl rfl (fun w _ => c86 b ao c s (f.keep + 1) hB w) ?_; exact qe) ?_; rotate_left)
        iterate 3 (refine' pv ?_; rotate_left)
        iterate 2 (refine' pn ?_; rotate_left)
        exact PG.nil
      · rintro _ _ ⟨b10, _, rfl, rfl⟩ _ _ ⟨b9, _, rfl, rfl⟩; change TL _ _ _ _ _ _ _ _ _ _ _; refine r1 ?_; exact TL_nil TQ_endN
      rintro _ _ ⟨b10, _, rfl, rfl⟩ _ _ ⟨b9, _, rfl, rfl⟩
      change TL _ _ _ _ _ _ _ _ _ _ _
      repeat' (first | refine rn ?_ | (apply TL_box; exact rfl; exact rfl; exact rfl; intro _ _) | (apply TL_alloc; exact rfl; intro _ _) | (apply TL_buildSlice; exact rfl; exact rfl; exact rfl; exact rfl; exact rfl; intro _ _))
      apply TC_draw 9; kernel_rfl; exact Try.mixed
      · iterate 3 (refine' pv ?_; rotate_left)
        (refine' PG.val rfl rfl (by intro _X; refine TL_callV rfl rfl rfl (fun w _ => c74 y.taken (takenR b s (f.keep + 1)) w (by omega) (by omega) (by omega) (by omega)) ?_; exact qe) ?_; rotate_left)
        iterate 3 (refine' pv ?_; rotate_left)
        (refine' PG.val rfl rfl (by intro _X; refine TL_callV rfl rfl rfl (fun w _ => c74 y.fallen (leftR b s (f.keep + 1)) w (by omega) (by omega) (by omega) (by omega)) ?_; exact qe) ?_; rotate_left)
        (refine' pv ?_; rotate_left)
        exact PG.nil
      change TL _ _ _ _ _ _ _ _ _ _ _
      repeat' (first | refine rn ?_ | (apply TL_box; exact rfl; exact rfl; exact rfl; intro _ _) | (apply TL_alloc; exact rfl; intro _ _) | (apply TL_buildSlice; exact rfl; exact rfl; exact rfl; exact rfl; exact rfl; intro _ _))
      refine TQ_round (i + 1) hj (by omega) sb (fun w h => ?_)
      rw [hnext]
      unfold stepY
      rw [hfate]
      exact h.sub (by repeat (first | exact List.Sublist.refl _ | apply List.Sublist.cons))

    · rw [if_neg (by omega)] at hfate hB ht hlf
      dsimp only at hB ht hlf
      repeat' (first | refine rn ?_ | (apply TL_box; exact rfl; exact rfl; exact rfl; intro _ _) | (apply TL_alloc; exact rfl; intro _ _) | (apply TL_buildSlice; exact rfl; exact rfl; exact rfl; exact rfl; exact rfl; intro _ _))

      apply TC_draw3 16 13; kernel_rfl; exact Try.mixed
      · iterate 4 (refine' pv ?_; rotate_left)
        (refine' PG.val rfl rfl (by intro _X; refine TL_index i rfl rfl rfl (fun w h => h.sl ha) rfl hj (Nat.le_refl _) ?_; exact qe) ?_; rotate_left)
        (refine' PG.val rfl rfl (by intro _X; refine TL_load_eln (u := s) rfl rfl (fun w h => h.sl ha) hs rfl ?_; exact qe) ?_; rotate_left)
        iterate 4 (refine' pv ?_; rotate_left)
        (refine' PG.val rfl rfl (by intro _X; refine TL_callV rfl rfl rfl (fun w _ => c86 b ao c s ((b.ripe.length : Int) - 1 - i) hB w) ?_; exact qe) ?_; rotate_left)
        iterate 3 (refine' pv ?_; rotate_left)
        iterate 2 (refine' pn ?_; rotate_left)
        exact PG.nil
      · rintro _ _ ⟨b10, _, rfl, rfl⟩ _ _ ⟨b9, _, rfl, rfl⟩; change TL _ _ _ _ _ _ _ _ _ _ _; refine r1 ?_; exact TL_nil TQ_endN
      rintro _ _ ⟨b10, _, rfl, rfl⟩ _ _ ⟨b9, _, rfl, rfl⟩
      change TL _ _ _ _ _ _ _ _ _ _ _
      repeat' (first | refine rn ?_ | (apply TL_box; exact rfl; exact rfl; exact rfl; intro _ _) | (apply TL_alloc; exact rfl; intro _ _) | (apply TL_buildSlice; exact rfl; exact rfl; exact rfl; exact rfl; exact rfl; intro _ _))
      apply TC_draw 9; kernel_rfl; exact Try.mixed
      · iterate 3 (refine' pv ?_; rotate_left)
        (refine' PG.val rfl rfl (by intro _X; refine TL_callV rfl rfl rfl (fun w _ => c74 y.taken (takenR b s ((b.ripe.length : Int) - 1 - i)) w (by omega) (by omega) (by omega) (by omega)) ?_; exact qe) ?_; rotate_left)
        iterate 3 (refine' pv ?_; rotate_left)
        (refine' PG.val rfl rfl (by intro _X; refine TL_callV rfl rfl rfl (fun w _ => c74 y.left (leftR b s ((b.ripe.length : Int) - 1 - i)) w (by omega) (by omega) (by omega) (by omega)) ?_; exact qe) ?_; rotate_left)
        (refine' pv ?_; rotate_left)
        exact PG.nil
      change TL _ _ _ _ _ _ _ _ _ _ _
      repeat' (first | refine rn ?_ | (apply TL_box; exact rfl; exact rfl; exact rfl; intro _ _) | (apply TL_alloc; exact rfl; intro _ _) | (apply TL_buildSlice; exact rfl; exact rfl; exact rfl; exact rfl; exact rfl; intro _ _))
      refine TQ_round (i + 1) hj (by omega) sb (fun w h => ?_)
      rw [hnext]
      unfold stepY
      rw [hfate]
      exact h.sub (by repeat (first | exact List.Sublist.refl _ | apply List.Sublist.cons))

end Go.Proofs.Ytccgplomnjpniaa
