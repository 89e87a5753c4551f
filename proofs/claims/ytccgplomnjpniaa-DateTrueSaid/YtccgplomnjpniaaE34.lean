/- Walks: ready; the statement DateNarrow. -/
import Derived.Test.YtccgplomnjpniaaE32
import Derived.Test.YtccgplomnjpniaaE33
namespace Go.Proofs.Ytccgplomnjpniaa
open Go Go.Eng Go.RowKit Go.Proofs
set_option maxHeartbeats 4000000
set_option maxRecDepth 10000
attribute [local irreducible] TL TC TQ

/-- A fruit and a bunch are valid, and cuts are such. -/
def Rdy (f : Ft) (b : Bn) (l : List Int) : Prop := (b.ripe.length ≤ 20 ∧ l.length ≤ 20) ∧ checkR f b = 0 ∧ cutsB b.ripe.length 0 l = true
instance (f : Ft) (b : Bn) (l : List Int) : Decidable (Rdy f b l) := inferInstanceAs (Decidable (_ ∧ _))
theorem c36 (f : Ft) (b : Bn) (ao : Option Addr) (c : Nat) (l : List Int) (lo : Option Addr) (lc : Nat) (hl : b.ripe.length ≤ 9223372036854775807) (hl2 : l.length ≤ 9223372036854775807) (w : World) (ha : Sl w 2 encSp ao b.ripe) (hal : Sl w 1 encI lo l) :
    Calls Try.prog 36 #[.agg (encFt f).toArray, .agg (encBn b ao c).toArray, .slice lo l.length lc] w (RetV w (.bool (decide (Rdy f b l)))) := by
  refine enter (args := [.agg (encFt f).toArray, .agg (encBn b ao c).toArray, .slice lo l.length lc]) Try.func36 rfl Try.ntmps36 rfl (SH.refl _) ?_
  repeat' (first | refine rn ?_ | (apply TL_box; exact rfl; exact rfl; exact rfl; intro _ _) | (apply TL_alloc; exact rfl; intro _ _) | (apply TL_buildSlice; exact rfl; exact rfl; exact rfl; exact rfl; exact rfl; intro _ _))
  refine TL_gsplit_dec rfl rfl (fun g1 => ?_) (fun g1 => ?_)
  · repeat' (first | refine rn ?_ | (apply TL_box; exact rfl; exact rfl; exact rfl; intro _ _) | (apply TL_alloc; exact rfl; intro _ _) | (apply TL_buildSlice; exact rfl; exact rfl; exact rfl; exact rfl; exact rfl; intro _ _))
    refine TL_gsplit_dec rfl rfl (fun g2 => ?_) (fun g2 => ?_)
    · repeat' (first | refine rn ?_ | (apply TL_box; exact rfl; exact rfl; exact rfl; intro _ _) | (apply TL_alloc; exact rfl; intro _ _) | (apply TL_buildSlice; exact rfl; exact rfl; exact rfl; exact rfl; exact rfl; intro _ _))
      refine TL_callV rfl rfl rfl (fun w h => c26 f b ao c (by omega) w (h.sl ha)) ?_
      repeat' (first | refine rn ?_ | (apply TL_box; exact rfl; exact rfl; exact rfl; intro _ _) | (apply TL_alloc; exact rfl; intro _ _) | (apply TL_buildSlice; exact rfl; exact rfl; exact rfl; exact rfl; exact rfl; intro _ _))
      refine TL_gsplit_dec rfl rfl (fun g3 => ?_) (fun g3 => ?_)
      · repeat' (first | refine rn ?_ | (apply TL_box; exact rfl; exact rfl; exact rfl; intro _ _) | (apply TL_alloc; exact rfl; intro _ _) | (apply TL_buildSlice; exact rfl; exact rfl; exact rfl; exact rfl; exact rfl; intro _ _))
        refine TL_callV rfl rfl rfl (fun w h => c41 b ao c l lo lc (by omega) (by omega) w (h.sl hal)) ?_
        repeat' (first | refine rn ?_ | (apply TL_box; exact rfl; exact rfl; exact rfl; intro _ _) | (apply TL_alloc; exact rfl; intro _ _) | (apply TL_buildSlice; exact rfl; exact rfl; exact rfl; exact rfl; exact rfl; intro _ _))
        have e : cutsB b.ripe.length 0 l = decide (Rdy f b l) := by
          cases hc : cutsB b.ripe.length 0 l with
          | true => exact (decide_eq_true ⟨⟨by omega, by omega⟩, g3, hc⟩).symm
          | false => exact (decide_eq_false (fun h => by have := h.2.2; rw [hc] at this; cases this)).symm
        exact TQ_ret1 Try.results36 (RV.tmp rfl) (fun w' hs => ⟨by rw [e], hs.below⟩)
      · repeat' (first | refine rn ?_ | (apply TL_box; exact rfl; exact rfl; exact rfl; intro _ _) | (apply TL_alloc; exact rfl; intro _ _) | (apply TL_buildSlice; exact rfl; exact rfl; exact rfl; exact rfl; exact rfl; intro _ _))
        exact TQ_ret1 Try.results36 (RV.tmp rfl) (fun w' hs => RetV.no (fun h => g3 h.2.1) hs.below)
    · repeat' (first | refine rn ?_ | (apply TL_box; exact rfl; exact rfl; exact rfl; intro _ _) | (apply TL_alloc; exact rfl; intro _ _) | (apply TL_buildSlice; exact rfl; exact rfl; exact rfl; exact rfl; exact rfl; intro _ _))
      exact TQ_ret1 Try.results36 (RV.tmp rfl) (fun w' hs => RetV.no (fun h => g2 (by have := h.1.2; omega)) hs.below)
  · repeat' (first | refine rn ?_ | (apply TL_box; exact rfl; exact rfl; exact rfl; intro _ _) | (apply TL_alloc; exact rfl; intro _ _) | (apply TL_buildSlice; exact rfl; exact rfl; exact rfl; exact rfl; exact rfl; intro _ _))
    exact TQ_ret1 Try.results36 (RV.tmp rfl) (fun w' hs => RetV.no (fun h => g1 (by have := h.1.1; omega)) hs.below)
theorem cutF_ok {f : Ft} {b : Bn} {l : List Int} (h : checkR f b = 0) (hc : cutsB b.ripe.length 0 l = true) : cutF f b l = (cutR f b l, 0) := by
  unfold cutF; rw [if_neg (by rw [h]; simp), if_pos hc]
theorem check_of {f : Ft} {b : Bn} (hf : OkFt f) (hb : OkBn b) : checkR f b = 0 := by
  unfold checkR; rw [if_neg (not_not_intro hf), if_neg (not_not_intro hb)]
theorem grades_ok {f : Ft} (hf : OkFt f) {n : Int} (hn : In n 0 30) : gradesR f n = (gLo f n, gHi f n, 0) := by
  unfold gradesR; rw [if_neg (not_not_intro hf), if_neg (not_not_intro hn)]
theorem g_day {f : Ft} (hf : OkFt f) {d e : Int} (h : d ≤ e) : gLo f d ≤ gLo f e ∧ gHi f d ≤ gHi f e := by
  have h2 := hf.2.1
  simp only [Ord] at h2
  have h3 : d * f.dry.1 ≤ e * f.dry.1 := Int.mul_le_mul_of_nonneg_right h h2.1
  have h4 : d * f.dry.2 ≤ e * f.dry.2 := Int.mul_le_mul_of_nonneg_right h (by omega)
  unfold gLo gHi
  exact ⟨gradeR_mono f hf.2.2.2.2.1 (by omega), gradeR_mono f hf.2.2.2.2.1 (by omega)⟩
def narrowF (f : Ft) (by_ : List U32) : Ft := { f with wet := partR f.wet by_ 0, dry := partR f.dry by_ 2 }
def narrowS (by_ : List U32) (i : Nat) (s : Sp) : Sp := partR s by_ (6 + 2 * (i : Int))
def narrowB (b : Bn) (by_ : List U32) : Bn := ⟨b.ripe.mapIdx (narrowS by_), partR b.birds by_ 4, b.cov⟩
theorem narrowF_ok {f : Ft} (hf : OkFt f) (by_ : List U32) : OkFt (narrowF f by_) ∧ FtN f (narrowF f by_) := by
  obtain ⟨h1, h2, h3⟩ := hf
  exact ⟨⟨(part_ord h1 _ _).1, (part_ord h2 _ _).1, h3⟩, (part_ord h1 _ _).2, (part_ord h2 _ _).2, rfl, rfl, rfl, rfl, rfl, rfl⟩
theorem narrowB_ok {b : Bn} (hb : OkBn b) (by_ : List U32) : OkBn (narrowB b by_) ∧ BnN b (narrowB b by_) := by
  obtain ⟨h1, h2, h3⟩ := hb
  refine ⟨⟨by simp only [narrowB, List.length_mapIdx]; exact h1, fun s hs => ?_, (part_ord h3 _ _).1⟩, (part_ord h3 _ _).2, rfl, by simp [narrowB], fun i x y hx hy => ?_⟩
  · obtain ⟨i, hi⟩ := List.getElem?_of_mem hs
    simp only [narrowB, List.getElem?_mapIdx, Option.map_eq_some_iff] at hi
    obtain ⟨y, hy, rfl⟩ := hi
    exact (part_ord (h2 y (List.mem_of_getElem? hy)) _ _).1
  · simp only [narrowB, List.getElem?_mapIdx, hx, Option.map_some, Option.some.injEq] at hy
    subst hy
    exact (part_ord (h2 x (List.mem_of_getElem? hx)) _ _).2
theorem c43t {a b : Sp} (h : Ins a b) (w : World) : Calls Try.prog 43 #[.agg (encSp a).toArray, .agg (encSp b).toArray] w (RetV w (.bool true)) := by
  have := c43 a b w
  rw [decide_eq_true (show b.1 ≤ a.1 ∧ a.2 ≤ b.2 from h)] at this
  exact this

theorem c11 (f : Ft) (b : Bn) (ao : Option Addr) (c : Nat) (l : List Int) (lo : Option Addr) (lc : Nat) (dd : Int) (hdd : 0 ≤ dd ∧ dd ≤ 255) (by_ : List U32) (bo : Option Addr) (bc : Nat) (hl : b.ripe.length ≤ 9223372036854775807) (hl2 : l.length ≤ 9223372036854775807) (hlb : by_.length ≤ 9223372036854775807)
    (w : World) (ha : Sl w 2 encSp ao b.ripe) (hal : Sl w 1 encI lo l) (hb : Sl w 1 encU bo by_) :
    Calls Try.prog 11 #[.agg (encFt f).toArray, .agg (encBn b ao c).toArray, .slice lo l.length lc, .int .u8 dd, .slice bo by_.length bc] w (RetV w (.bool true)) := by
  refine enter (args := [.agg (encFt f).toArray, .agg (encBn b ao c).toArray, .slice lo l.length lc, .int .u8 dd, .slice bo by_.length bc]) Try.func11 rfl Try.ntmps11 rfl (SH.refl _) ?_
  repeat' (first | refine rn ?_ | (apply TL_box; exact rfl; exact rfl; exact rfl; intro _ _) | (apply TL_alloc; exact rfl; intro _ _) | (apply TL_buildSlice; exact rfl; exact rfl; exact rfl; exact rfl; exact rfl; intro _ _))
  rename_i b5 _ b6 _
  refine TL_callV rfl rfl rfl (fun w _ => c31 w) ?_
  repeat' (first | refine rn ?_ | (apply TL_box; exact rfl; exact rfl; exact rfl; intro _ _) | (apply TL_alloc; exact rfl; intro _ _) | (apply TL_buildSlice; exact rfl; exact rfl; exact rfl; exact rfl; exact rfl; intro _ _))
  refine TL_callV rfl rfl rfl (fun w h => c36 f b ao c l lo lc hl hl2 w (h.sl ha) (h.sl hal)) ?_
  repeat' (first | refine rn ?_ | (apply TL_box; exact rfl; exact rfl; exact rfl; intro _ _) | (apply TL_alloc; exact rfl; intro _ _) | (apply TL_buildSlice; exact rfl; exact rfl; exact rfl; exact rfl; exact rfl; intro _ _))
  refine TL_gsplit_dec rfl rfl (fun g1 => ?_) (fun g1 => ?_)
  · repeat' (first | refine rn ?_ | (apply TL_box; exact rfl; exact rfl; exact rfl; intro _ _) | (apply TL_alloc; exact rfl; intro _ _) | (apply TL_buildSlice; exact rfl; exact rfl; exact rfl; exact rfl; exact rfl; intro _ _))
    exact TQ_ret1 Try.results11 (RV.tmp rfl) (fun w' hs => ⟨rfl, hs.below⟩)
  repeat' (first | refine rn ?_ | (apply TL_box; exact rfl; exact rfl; exact rfl; intro _ _) | (apply TL_alloc; exact rfl; intro _ _) | (apply TL_buildSlice; exact rfl; exact rfl; exact rfl; exact rfl; exact rfl; intro _ _))
  have hrdy : Rdy f b l := Classical.not_not.1 g1
  obtain ⟨⟨r1', r2'⟩, hchk, hcut⟩ := hrdy
  obtain ⟨hf, hbn⟩ := checkR_ok hchk
  obtain ⟨hg, hFN⟩ := narrowF_ok hf by_
  obtain ⟨hc, hBN⟩ := narrowB_ok hbn by_
  obtain ⟨u1, u2, _⟩ := id hf
  obtain ⟨u3, u4, u5⟩ := id hbn
  simp only [Ord, In] at u1 u2 u3 u4 u5
  apply TC_draw 5; kernel_rfl; exact Try.mixed
  · iterate 2 (refine' pv ?_; rotate_left)
    (refine' PG.rel ((fun v h => ∃ so sc, v = .agg (encBn b so sc).toArray ∧ Row 23 2 encSp so sc h b.ripe)) rfl rfl (by intro _X; refine TL_callN rfl rfl rfl (fun w h => c20 b ao c (by omega) w (h.sl ha)) ?_; rintro ⟨so, sc, ob⟩ hrow; exact TL_nil (TQ_QR (h := ob) rfl ⟨so, sc, rfl, hrow⟩ (fun _ h => h))) ?_; rotate_left)
    (refine' pn ?_; rotate_left)
    (refine' pn ?_; rotate_left)
    exact PG.nil
  rintro _ _ ⟨b13, _, rfl, rfl⟩ _ _ ⟨b12, _, rfl, rfl⟩ _ ob ⟨so, sc, rfl, hrow⟩
  change TL _ _ _ _ _ _ _ _ _ _ _
  repeat' (first | refine rn ?_ | (apply TL_box; exact rfl; exact rfl; exact rfl; intro _ _) | (apply TL_alloc; exact rfl; intro _ _) | (apply TL_buildSlice; exact rfl; exact rfl; exact rfl; exact rfl; exact rfl; intro _ _))
  apply TC_draw 13; kernel_rfl; exact Try.mixed
  · iterate 3 (refine' pv ?_; rotate_left)
    (refine' PG.val rfl rfl (by intro _X; refine TL_callV rfl rfl rfl (fun w h => c42 f.wet by_ 0 (by omega) u1.1 u1.2.1 (by omega) bo bc hlb w (h.sl hb)) ?_; exact qe) ?_; rotate_left)
    iterate 3 (refine' pv ?_; rotate_left)
    (refine' PG.val rfl rfl (by intro _X; refine TL_callV rfl rfl rfl (fun w h => c42 f.dry by_ 2 (by omega) u2.1 u2.2.1 (by omega) bo bc hlb w (h.sl hb)) ?_; exact qe) ?_; rotate_left)
    iterate 3 (refine' pv ?_; rotate_left)
    (refine' PG.val rfl rfl (by intro _X; refine TL_callV rfl rfl rfl (fun w h => c42 b.birds by_ 4 (by omega) u5.1 u5.2.1 (by omega) bo bc hlb w (h.sl hb)) ?_; exact qe) ?_; rotate_left)
    (refine' pv ?_; rotate_left)
    exact PG.nil
  change TL _ _ _ _ _ _ _ _ _ _ _
  repeat' (first | refine rn ?_ | (apply TL_box; exact rfl; exact rfl; exact rfl; intro _ _) | (apply TL_alloc; exact rfl; intro _ _) | (apply TL_buildSlice; exact rfl; exact rfl; exact rfl; exact rfl; exact rfl; intro _ _))
  refine TC_loop (σ := Nat × Hp) (fun q => q.1 ≤ b.ripe.length ∧ Row 23 2 encSp so sc q.2 (mapTo (narrowS by_) b.ripe q.1))
    (fun q => [(2, .slice lo l.length lc), (3, .int .u8 dd), (4, .slice bo by_.length bc), (5, .pointer (some ⟨b5, 0, none⟩)), (6, .pointer (some ⟨b6, 0, none⟩)), (11, .bool true), (12, .pointer (some ⟨b12, 0, none⟩)), (13, .pointer (some ⟨b13, 0, none⟩)), (61, .int .i64 b.ripe.length), (62, .int .i64 q.1)])
    (fun q => (b13, .cells [.slice so b.ripe.length sc, .int .i64 (partR b.birds by_ 4).1, .int .i64 (partR b.birds by_ 4).2, .bool b.cov] 46) :: (b12, .cells (encFt (narrowF f by_)) 43) :: (q.2 ++ [(b6, .cells (encBn b ao c) 46), (b5, .cells (encFt f) 43)])) (fun q => b.ripe.length - q.1) (0, ob) ⟨Nat.zero_le _, by rw [mapTo_zero]; exact hrow⟩ sb (fun w h => ?_) (fun q hq => ?_)
  · rw [show ob ++ [] = ob from List.append_nil ob] at h
    exact h
  obtain ⟨k, ob⟩ := q
  obtain ⟨q1, hrow⟩ := hq
  dsimp only at q1 hrow ⊢
  have hln : (mapTo (narrowS by_) b.ripe k).length = b.ripe.length := mapTo_len _ _ _
  repeat' (first | refine rn ?_ | (apply TL_box; exact rfl; exact rfl; exact rfl; intro _ _) | (apply TL_alloc; exact rfl; intro _ _) | (apply TL_buildSlice; exact rfl; exact rfl; exact rfl; exact rfl; exact rfl; intro _ _))
  refine TC_cond_dec rfl (fun h1 => ?_) (fun h1 => ?_)
  · have hlt : k < b.ripe.length := by omega
    obtain ⟨x, hx⟩ : ∃ x, b.ripe[k]? = some x := ⟨_, List.getElem?_eq_getElem hlt⟩
    have hox := u4 x (List.mem_of_getElem? hx)
    have hx1 : (mapTo (narrowS by_) b.ripe k)[k]? = some x := by rw [mapTo_get, hx]; simp
    have hs1 := mapTo_set (narrowS by_) b.ripe hx
    repeat' (first | refine rn ?_ | (apply TL_box; exact rfl; exact rfl; exact rfl; intro _ _) | (apply TL_alloc; exact rfl; intro _ _) | (apply TL_buildSlice; exact rfl; exact rfl; exact rfl; exact rfl; exact rfl; intro _ _))
    apply TC_draw 13; kernel_rfl; exact Try.mixed
    · iterate 6 (refine' pv ?_; rotate_left)
      (refine' PG.val rfl rfl (by intro _X; refine TL_index k rfl rfl rfl (fun w h => hrow.sl h (fun p hp => (by repeat (first | exact List.mem_append_left _ hp | apply List.mem_append_right | apply List.mem_cons_of_mem)))) rfl (by omega) (Nat.le_of_eq hln) ?_; exact qe) ?_; rotate_left)
      (refine' PG.val rfl rfl (by intro _X; refine TL_load_eln (u := x) rfl rfl (fun w h => hrow.sl h (fun p hp => (by repeat (first | exact List.mem_append_left _ hp | apply List.mem_append_right | apply List.mem_cons_of_mem)))) hx1 rfl ?_; exact qe) ?_; rotate_left)
      iterate 4 (refine' pv ?_; rotate_left)
      (refine' PG.val rfl rfl (by intro _X; refine TL_callV rfl rfl rfl (fun w h => c42 x by_ (6 + 2 * (k : Int)) (by omega) hox.1 hox.2.1 (by omega) bo bc hlb w (h.sl hb)) ?_; exact qe) ?_; rotate_left)
      exact PG.nil
    change TL _ _ _ _ _ _ _ _ _ _ _
    refine TL_index k rfl rfl rfl (fun w h => hrow.sl h (fun p hp => (by repeat (first | exact List.mem_append_left _ hp | apply List.mem_append_right | apply List.mem_cons_of_mem)))) rfl (by omega) (Nat.le_of_eq hln) ?_
    refine TL_store_el (u := x) (u' := narrowS by_ k x) (f := fun z => (b13, .cells [.slice so b.ripe.length sc, .int .i64 (partR b.birds by_ 4).1, .int .i64 (partR b.birds by_ 4).2, .bool b.cov] 46) :: (b12, .cells (encFt (narrowF f by_)) 43) :: (z ++ [(b6, .cells (encBn b ao c) 46), (b5, .cells (encFt f) 43)])) hrow rfl rfl rfl rfl rfl rfl hx1 rfl rfl (fun b x y => up) (fun ob' hr => ?_)
    rw [hs1] at hr
    repeat' (first | refine rn ?_ | (apply TL_box; exact rfl; exact rfl; exact rfl; intro _ _) | (apply TL_alloc; exact rfl; intro _ _) | (apply TL_buildSlice; exact rfl; exact rfl; exact rfl; exact rfl; exact rfl; intro _ _))
    refine TQ_round (k + 1, ob') ⟨hlt, hr⟩ (by dsimp only; omega) sb (fun w h => h)
  · have hk : k = b.ripe.length := by omega
    subst hk
    rw [mapTo_all _ _ (Nat.le_refl _)] at hrow
    have hln : (narrowB b by_).ripe.length = b.ripe.length := hBN.len
    have c23y := fun w h1 h2 => c23 f b ao c l lo lc (by omega) (by omega) w h1 h2
    rw [cutF_ok hchk hcut] at c23y
    have c23z := fun w h1 h2 => c23 (narrowF f by_) (narrowB b by_) so sc l lo lc (by omega) (by omega) w h1 h2
    rw [cutF_ok (check_of hg hc) (by rw [hln]; exact hcut)] at c23z
    have eB : encBn (narrowB b by_) so sc = [.slice so b.ripe.length sc, .int .i64 (partR b.birds by_ 4).1, .int .i64 (partR b.birds by_ 4).2, .bool b.cov] := by rw [← hln]; rfl
    rw [eB] at c23z
    have hy := cutR_ins l hf hg hbn hc hFN hBN
    generalize cutR f b l = y at c23y hy
    generalize cutR (narrowF f by_) (narrowB b by_) l = z at c23z hy
    repeat' (first | refine rn ?_ | (apply TL_box; exact rfl; exact rfl; exact rfl; intro _ _) | (apply TL_alloc; exact rfl; intro _ _) | (apply TL_buildSlice; exact rfl; exact rfl; exact rfl; exact rfl; exact rfl; intro _ _))
    refine TL_callV rfl rfl rfl (fun w h => c23y w (h.sl ha) (h.sl hal)) ?_
    repeat' (first | refine rn ?_ | (apply TL_box; exact rfl; exact rfl; exact rfl; intro _ _) | (apply TL_alloc; exact rfl; intro _ _) | (apply TL_buildSlice; exact rfl; exact rfl; exact rfl; exact rfl; exact rfl; intro _ _))
    refine TL_callV rfl rfl rfl (fun w h => c23z w (hrow.sl h (fun p hp => List.mem_cons_of_mem _ (List.mem_cons_of_mem _ (List.mem_cons_of_mem _ (List.mem_append_left _ hp))))) (h.sl hal)) ?_
    repeat' (first | refine rn ?_ | (apply TL_box; exact rfl; exact rfl; exact rfl; intro _ _) | (apply TL_alloc; exact rfl; intro _ _) | (apply TL_buildSlice; exact rfl; exact rfl; exact rfl; exact rfl; exact rfl; intro _ _))
    rename_i b15 _ b17 _
    refine TC_loop (σ := Nat) (fun k => k ≤ 3) (fun k => [(3, .int .u8 dd), (5, .pointer (some ⟨b5, 0, none⟩)), (11, .bool true), (12, .pointer (some ⟨b12, 0, none⟩)), (15, .pointer (some ⟨b15, 0, none⟩)), (17, .pointer (some ⟨b17, 0, none⟩)), (100, .int .i64 k)])
      (fun _ => (b17, .cells (encYd z) 55) :: (b15, .cells (encYd y) 55) :: (b13, .cells [.slice so b.ripe.length sc, .int .i64 (partR b.birds by_ 4).1, .int .i64 (partR b.birds by_ 4).2, .bool b.cov] 46) :: (b12, .cells (encFt (narrowF f by_)) 43) :: (ob ++ ([(b6, .cells (encBn b ao c) 46), (b5, .cells (encFt f) 43)] : Hp))) (fun k => 3 - k) 0 (by omega) sb (fun w h => h) (fun k hk => ?_)
    have hk4 : k = 0 ∨ k = 1 ∨ k = 2 ∨ k = 3 := by omega
    rcases hk4 with rfl | rfl | rfl | rfl
    · repeat' (first | refine rn ?_ | (apply TL_box; exact rfl; exact rfl; exact rfl; intro _ _) | (apply TL_alloc; exact rfl; intro _ _) | (apply TL_buildSlice; exact rfl; exact rfl; exact rfl; exact rfl; exact rfl; intro _ _))
      apply TC_draw 10; kernel_rfl; exact Try.mixed
      · iterate 2 (refine' pv ?_; rotate_left)
        (refine' PG.val rfl rfl (by intro _X; refine TL_indexAddrA 0 rfl rfl rfl rfl (by omega) ?_; exact qe) ?_; rotate_left)
        iterate 3 (refine' pv ?_; rotate_left)
        (refine' PG.val rfl rfl (by intro _X; refine TL_indexAddrA 0 rfl rfl rfl rfl (by omega) ?_; exact qe) ?_; rotate_left)
        (refine' pv ?_; rotate_left)
        (refine' PG.val rfl rfl (by intro _X; refine TL_callV rfl rfl rfl (fun w _ => c43t hy.g0 w) ?_; exact qe) ?_; rotate_left)
        (refine' pv ?_; rotate_left)
        exact PG.nil
      change TL _ _ _ _ _ _ _ _ _ _ _
      repeat' (first | refine rn ?_ | (apply TL_box; exact rfl; exact rfl; exact rfl; intro _ _) | (apply TL_alloc; exact rfl; intro _ _) | (apply TL_buildSlice; exact rfl; exact rfl; exact rfl; exact rfl; exact rfl; intro _ _))
      refine TQ_round (0 + 1) (by omega) (by omega) sb (fun w h => h)
    · repeat' (first | refine rn ?_ | (apply TL_box; exact rfl; exact rfl; exact rfl; intro _ _) | (apply TL_alloc; exact rfl; intro _ _) | (apply TL_buildSlice; exact rfl; exact rfl; exact rfl; exact rfl; exact rfl; intro _ _))
      apply TC_draw 10; kernel_rfl; exact Try.mixed
      · iterate 2 (refine' pv ?_; rotate_left)
        (refine' PG.val rfl rfl (by intro _X; refine TL_indexAddrA 1 rfl rfl rfl rfl (by omega) ?_; exact qe) ?_; rotate_left)
        iterate 3 (refine' pv ?_; rotate_left)
        (refine' PG.val rfl rfl (by intro _X; refine TL_indexAddrA 1 rfl rfl rfl rfl (by omega) ?_; exact qe) ?_; rotate_left)
        (refine' pv ?_; rotate_left)
        (refine' PG.val rfl rfl (by intro _X; refine TL_callV rfl rfl rfl (fun w _ => c43t hy.g1 w) ?_; exact qe) ?_; rotate_left)
        (refine' pv ?_; rotate_left)
        exact PG.nil
      change TL _ _ _ _ _ _ _ _ _ _ _
      repeat' (first | refine rn ?_ | (apply TL_box; exact rfl; exact rfl; exact rfl; intro _ _) | (apply TL_alloc; exact rfl; intro _ _) | (apply TL_buildSlice; exact rfl; exact rfl; exact rfl; exact rfl; exact rfl; intro _ _))
      refine TQ_round (1 + 1) (by omega) (by omega) sb (fun w h => h)
    · repeat' (first | refine rn ?_ | (apply TL_box; exact rfl; exact rfl; exact rfl; intro _ _) | (apply TL_alloc; exact rfl; intro _ _) | (apply TL_buildSlice; exact rfl; exact rfl; exact rfl; exact rfl; exact rfl; intro _ _))
      apply TC_draw 10; kernel_rfl; exact Try.mixed
      · iterate 2 (refine' pv ?_; rotate_left)
        (refine' PG.val rfl rfl (by intro _X; refine TL_indexAddrA 2 rfl rfl rfl rfl (by omega) ?_; exact qe) ?_; rotate_left)
        iterate 3 (refine' pv ?_; rotate_left)
        (refine' PG.val rfl rfl (by intro _X; refine TL_indexAddrA 2 rfl rfl rfl rfl (by omega) ?_; exact qe) ?_; rotate_left)
        (refine' pv ?_; rotate_left)
        (refine' PG.val rfl rfl (by intro _X; refine TL_callV rfl rfl rfl (fun w _ => c43t hy.g2 w) ?_; exact qe) ?_; rotate_left)
        (refine' pv ?_; rotate_left)
        exact PG.nil
      change TL _ _ _ _ _ _ _ _ _ _ _
      repeat' (first | refine rn ?_ | (apply TL_box; exact rfl; exact rfl; exact rfl; intro _ _) | (apply TL_alloc; exact rfl; intro _ _) | (apply TL_buildSlice; exact rfl; exact rfl; exact rfl; exact rfl; exact rfl; intro _ _))
      refine TQ_round (2 + 1) (by omega) (by omega) sb (fun w h => h)
    · repeat' (first | refine rn ?_ | (apply TL_box; exact rfl; exact rfl; exact rfl; intro _ _) | (apply TL_alloc; exact rfl; intro _ _) | (apply TL_buildSlice; exact rfl; exact rfl; exact rfl; exact rfl; exact rfl; intro _ _))
      refine TL_callV rfl rfl rfl (fun w _ => c43t hy.taken w) ?_
      repeat' (first | refine rn ?_ | (apply TL_box; exact rfl; exact rfl; exact rfl; intro _ _) | (apply TL_alloc; exact rfl; intro _ _) | (apply TL_buildSlice; exact rfl; exact rfl; exact rfl; exact rfl; exact rfl; intro _ _))
      refine TL_callV rfl rfl rfl (fun w _ => c43t hy.fallen w) ?_
      repeat' (first | refine rn ?_ | (apply TL_box; exact rfl; exact rfl; exact rfl; intro _ _) | (apply TL_alloc; exact rfl; intro _ _) | (apply TL_buildSlice; exact rfl; exact rfl; exact rfl; exact rfl; exact rfl; intro _ _))
      refine TL_callV rfl rfl rfl (fun w _ => c43t hy.left w) ?_
      repeat' (first | refine rn ?_ | (apply TL_box; exact rfl; exact rfl; exact rfl; intro _ _) | (apply TL_alloc; exact rfl; intro _ _) | (apply TL_buildSlice; exact rfl; exact rfl; exact rfl; exact rfl; exact rfl; intro _ _))
      refine TL_callV rfl rfl rfl (fun w _ => c43t hy.worth w) ?_
      have hn1 := Int.emod_nonneg dd (show (31 : Int) ≠ 0 by omega)
      have hn2 := Int.emod_lt_of_pos dd (show (0 : Int) < 31 by omega)
      repeat' (first | (refine TL_conv_same rfl rfl (wrap_i64_nn hdd.1 (by omega)) ?_) | refine r1 ?_ | (apply TL_box; exact rfl; exact rfl; exact rfl; intro _ _) | (apply TL_alloc; exact rfl; intro _ _) | (apply TL_buildSlice; exact rfl; exact rfl; exact rfl; exact rfl; exact rfl; intro _ _))
      generalize dd % 31 = n at hn1 hn2 ⊢
      have c21a := fun w => c21 f n w
      rw [grades_ok hf ⟨hn1, by omega⟩] at c21a
      have c21b := fun w => c21 (narrowF f by_) n w
      rw [grades_ok hg ⟨hn1, by omega⟩] at c21b
      have c21c := fun w => c21 f (max (n - 1) 0) w
      rw [grades_ok hf (show In (max (n - 1) 0) 0 30 by simp only [In]; omega)] at c21c
      have hd1 := g_ins hf hFN hn1
      have hd2 := gLo_hi hf (show In n 0 30 from ⟨hn1, by omega⟩)
      have hd3 := g_day hf (show max (n - 1) 0 ≤ n by omega)
      generalize gLo f n = x1 at c21a hd1 hd2 hd3
      generalize gHi f n = x2 at c21a hd1 hd2 hd3
      generalize gLo (narrowF f by_) n = x3 at c21b hd1
      generalize gHi (narrowF f by_) n = x4 at c21b hd1
      generalize gLo f (max (n - 1) 0) = x5 at c21c hd3
      generalize gHi f (max (n - 1) 0) = x6 at c21c hd3
      refine TL_callV rfl rfl rfl (fun w _ => c21a w) ?_
      dsimp only [gradesV]
      repeat' (first | refine rn ?_ | (apply TL_box; exact rfl; exact rfl; exact rfl; intro _ _) | (apply TL_alloc; exact rfl; intro _ _) | (apply TL_buildSlice; exact rfl; exact rfl; exact rfl; exact rfl; exact rfl; intro _ _))
      refine TL_callV rfl rfl rfl (fun w _ => c21b w) ?_
      dsimp only [gradesV]
      repeat' (first | refine rn ?_ | (apply TL_box; exact rfl; exact rfl; exact rfl; intro _ _) | (apply TL_alloc; exact rfl; intro _ _) | (apply TL_buildSlice; exact rfl; exact rfl; exact rfl; exact rfl; exact rfl; intro _ _))
      refine TL_callV rfl rfl rfl (fun w _ => c21c w) ?_
      dsimp only [gradesV]
      repeat' (first | (refine TL_leq_t rfl rfl rfl (by omega) ?_) | (refine TL_geq_t rfl rfl rfl (by omega) ?_) | refine r1 ?_ | (apply TL_box; exact rfl; exact rfl; exact rfl; intro _ _) | (apply TL_alloc; exact rfl; intro _ _) | (apply TL_buildSlice; exact rfl; exact rfl; exact rfl; exact rfl; exact rfl; intro _ _))
      exact TQ_ret1 Try.results11 (RV.tmp rfl) (fun w' hs => ⟨rfl, hs.below⟩)
end Go.Proofs.Ytccgplomnjpniaa
