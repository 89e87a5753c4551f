/- Walks: Cut, of the program. -/
import Derived.Test.YtccgplomnjpniaaE15
namespace Go.Proofs.Ytccgplomnjpniaa
open Go Go.Eng Go.RowKit Go.Proofs
set_option maxHeartbeats 1000000
set_option maxRecDepth 10000
attribute [local irreducible] TL TC TQ

/-- From what a cut may be on, as the program keeps it. -/
def nxw (l : List Int) : Nat → Int
  | 0 => 0
  | i + 1 => IntKind.i64.wrap (l.getD i 0 + 1)
theorem nxw_iff {n : Nat} (hn : n ≤ 1000000) (l : List Int) : (∀ (i : Nat) x, l[i]? = some x → In x (nxw l i) ((n : Int) - 1)) ↔ cutsB n 0 l = true := by
  rw [cutsB_zero]
  have key1 : (∀ (i : Nat) x, l[i]? = some x → In x (nxw l i) ((n : Int) - 1)) → ∀ i, i ≤ l.length → nxw l i = nx l i ∧ 0 ≤ nx l i := by
    intro h i
    induction i with
    | zero => intro _; exact ⟨rfl, Int.le_refl _⟩
    | succ i ih =>
      intro hi
      obtain ⟨e, h0⟩ := ih (by omega)
      obtain ⟨y, hy⟩ : ∃ y, l[i]? = some y := ⟨_, List.getElem?_eq_getElem (by omega)⟩
      have := h i y hy
      simp only [In] at this
      have e2 : l.getD i 0 = y := by rw [List.getD_eq_getElem?_getD, hy]; rfl
      simp only [nxw, nx, e2]
      rw [wrap_i64_of (by omega)]
      exact ⟨rfl, by omega⟩
  have key2 : (∀ (i : Nat) x, l[i]? = some x → In x (nx l i) ((n : Int) - 1)) → ∀ i, i ≤ l.length → nxw l i = nx l i ∧ 0 ≤ nx l i := by
    intro h i
    induction i with
    | zero => intro _; exact ⟨rfl, Int.le_refl _⟩
    | succ i ih =>
      intro hi
      obtain ⟨e, h0⟩ := ih (by omega)
      obtain ⟨y, hy⟩ : ∃ y, l[i]? = some y := ⟨_, List.getElem?_eq_getElem (by omega)⟩
      have := h i y hy
      simp only [In] at this
      have e2 : l.getD i 0 = y := by rw [List.getD_eq_getElem?_getD, hy]; rfl
      simp only [nxw, nx, e2]
      rw [wrap_i64_of (by omega)]
      exact ⟨rfl, by omega⟩
  constructor
  · intro h i x hx
    have := h i x hx
    rwa [(key1 h i (by have := (List.getElem?_eq_some_iff.1 hx).1; omega)).1] at this
  · intro h i x hx
    have := h i x hx
    rwa [(key2 h i (by have := (List.getElem?_eq_some_iff.1 hx).1; omega)).1]

theorem c58 {B : Nat} {w0 : World} (b : Bn) (ao : Option Addr) (c : Nat) (x nxt : Int) (bn bb : Nat) (G : Hp) (hl : b.ripe.length ≤ 1000000) (hm : (bb, .cells (encBn b ao c) 46) ∈ G) (w : World) (hs : SH B w0 w ((bn, .cells [.int .i64 nxt] 3) :: G)) :
    Calls Try.prog 58 #[.int .i64 x, .pointer (some ⟨bn, 0, none⟩), .pointer (some ⟨bb, 0, none⟩)] w (RetP B w0 (fun _ : Unit => .bool (decide (In x nxt ((b.ripe.length : Int) - 1)))) (fun _ => (bn, .cells [.int .i64 (IntKind.i64.wrap (x + 1))] 3) :: G) (fun _ => True)) := by
  refine enter (args := [.int .i64 x, .pointer (some ⟨bn, 0, none⟩), .pointer (some ⟨bb, 0, none⟩)]) Try.func58 rfl Try.ntmps58 rfl hs ?_
  have c46' := fun ao c w h => c46 nxt ((b.ripe.length : Int) - 1) [x] ao c (by simp) w h
  have e : decide (∀ y ∈ [x], In y nxt ((b.ripe.length : Int) - 1)) = decide (In x nxt ((b.ripe.length : Int) - 1)) := by
    rw [decide_eq_decide]; simp
  rw [e] at c46'
  repeat' (first | refine rn ?_ | (apply TL_box; exact rfl; exact rfl; exact rfl; intro _ _) | (apply TL_alloc; exact rfl; intro _ _) | (apply TL_buildSlice; exact rfl; exact rfl; exact rfl; exact rfl; exact rfl; intro _ _))
  refine TL_load1 rfl rfl (List.Mem.tail _ hm) rfl ?_
  repeat' (first | refine rn ?_ | (apply TL_box; exact rfl; exact rfl; exact rfl; intro _ _) | (apply TL_alloc; exact rfl; intro _ _) | (apply TL_buildSlice; exact rfl; exact rfl; exact rfl; exact rfl; exact rfl; intro _ _))
  refine TL_callV rfl rfl rfl (fun w h => c46' _ _ w (Sl.of_blk h mm (fun _ _ => rfl) ⟨[], rfl⟩)) ?_
  repeat' (first | refine rn ?_ | (apply TL_box; exact rfl; exact rfl; exact rfl; intro _ _) | (apply TL_alloc; exact rfl; intro _ _) | (apply TL_buildSlice; exact rfl; exact rfl; exact rfl; exact rfl; exact rfl; intro _ _))
  refine TL_addw rfl rfl rfl ?_
  repeat' (first | refine rn ?_ | (apply TL_box; exact rfl; exact rfl; exact rfl; intro _ _) | (apply TL_alloc; exact rfl; intro _ _) | (apply TL_buildSlice; exact rfl; exact rfl; exact rfl; exact rfl; exact rfl; intro _ _))
  exact TQ_ret1 Try.results58 (RV.tmp rfl) (fun w' hs => ⟨(), trivial, rfl, hs.sub (List.Sublist.cons _ (List.Sublist.refl _))⟩)

def cutF (f : Ft) (b : Bn) (l : List Int) : Yd × Int := if checkR f b ≠ 0 then (zeroYd, checkR f b) else if cutsB b.ripe.length 0 l = true then (cutR f b l, 0) else (zeroYd, 82)
theorem checkR_ok {f : Ft} {b : Bn} (h : checkR f b = 0) : OkFt f ∧ OkBn b := by
  unfold checkR at h
  split at h
  · cases h
  · split at h
    · cases h
    · rename_i h1 h2
      exact ⟨Classical.not_not.1 h1, Classical.not_not.1 h2⟩
theorem c23 (f : Ft) (b : Bn) (ao : Option Addr) (c : Nat) (l : List Int) (lo : Option Addr) (lc : Nat) (hl : b.ripe.length ≤ 1000000) (hl2 : l.length ≤ 1000000) (w : World) (ha : Sl w 2 encSp ao b.ripe) (hal : Sl w 1 encI lo l) :
    Calls Try.prog 23 #[.agg (encFt f).toArray, .agg (encBn b ao c).toArray, .slice lo l.length lc] w (RetV w (.tuple #[.agg (encYd (cutF f b l).1).toArray, .int .i64 (cutF f b l).2])) := by
  refine enter (args := [.agg (encFt f).toArray, .agg (encBn b ao c).toArray, .slice lo l.length lc]) Try.func23 rfl Try.ntmps23 rfl (SH.refl _) ?_
  repeat' (first | refine rn ?_ | (apply TL_box; exact rfl; exact rfl; exact rfl; intro _ _) | (apply TL_alloc; exact rfl; intro _ _) | (apply TL_buildSlice; exact rfl; exact rfl; exact rfl; exact rfl; exact rfl; intro _ _))
  refine TL_callV rfl rfl rfl (fun w h => c25 f b ao c hl w (h.sl ha)) ?_
  repeat' (first | refine rn ?_ | (apply TL_box; exact rfl; exact rfl; exact rfl; intro _ _) | (apply TL_alloc; exact rfl; intro _ _) | (apply TL_buildSlice; exact rfl; exact rfl; exact rfl; exact rfl; exact rfl; intro _ _))
  refine TC_cond_dec rfl (fun g1 => ?_) (fun g1 => ?_)
  · have e : cutF f b l = (zeroYd, checkR f b) := by unfold cutF; rw [if_pos g1]
    rw [e]
    repeat' (first | refine rn ?_ | (apply TL_box; exact rfl; exact rfl; exact rfl; intro _ _) | (apply TL_alloc; exact rfl; intro _ _) | (apply TL_buildSlice; exact rfl; exact rfl; exact rfl; exact rfl; exact rfl; intro _ _))
    exact TQ_ret2 Try.results23 (RV.celln rfl mm (by rfl)) (RV.tmp rfl) (fun w' hs => ⟨rfl, hs.below⟩)
  obtain ⟨hf, hb⟩ := checkR_ok (Classical.not_not.1 g1)
  have hn : b.ripe.length ≤ 12 := by have := hb.1; simp only [In] at this; omega
  repeat' (first | refine rn ?_ | (apply TL_box; exact rfl; exact rfl; exact rfl; intro _ _) | (apply TL_alloc; exact rfl; intro _ _) | (apply TL_buildSlice; exact rfl; exact rfl; exact rfl; exact rfl; exact rfl; intro _ _))
  rename_i b3 _ b4 _ b6 _ b9 _
  refine TL_call rfl rfl rfl _ _ _ (fun w h => c59 (fun j => [(b9, .cells [.int .i64 (nxw l j)] 3), (b6, .cells (encYd zeroYd) 55), (b4, .cells (encBn b ao c) 46), (b3, .cells (encFt f) 43)]) (fun j => decide (In (l.getD j 0) (nxw l j) ((b.ripe.length : Int) - 1))) 58 [.pointer (some ⟨b9, 0, none⟩), .pointer (some ⟨b4, 0, none⟩)] l lo lc (by omega) (fun j w h => h.sl hal) ?_ w h) ?_
  · intro G j x hx w h
    have e : l.getD j 0 = x := by rw [List.getD_eq_getElem?_getD, hx]; rfl
    rw [e]
    have := c58 b ao c x (nxw l j) b9 b4 ([(b6, .cells (encYd zeroYd) 55), (b4, .cells (encBn b ao c) 46), (b3, .cells (encFt f) 43)] ++ G) hl mm w h
    refine this.mono fun e' w' ⟨u, h1, h2, h3⟩ => ⟨u, h1, h2, ?_⟩
    have e2 : nxw l (j + 1) = IntKind.i64.wrap (x + 1) := by rw [nxw, e]
    rw [e2]; exact h3
  intro j hj
  have hall : (¬ j < l.length) ↔ cutsB b.ripe.length 0 l = true := by
    rw [← nxw_iff hl]
    obtain ⟨h1, h2, h3⟩ := hj
    have hget : ∀ (i : Nat) x, l[i]? = some x → l.getD i 0 = x := fun i x hx => by rw [List.getD_eq_getElem?_getD, hx]; rfl
    constructor
    · intro h i x hx
      have hi := (List.getElem?_eq_some_iff.1 hx).1
      have := h2 i (by omega)
      dsimp only at this
      rw [hget i x hx] at this
      simpa using this
    · intro h hlt
      have := h3 hlt
      obtain ⟨x, hx⟩ : ∃ x, l[j]? = some x := ⟨_, List.getElem?_eq_getElem hlt⟩
      dsimp only at this
      rw [hget j x hx] at this
      have h4 := h j x hx
      simp [h4] at this
  repeat' (first | refine rn ?_ | (apply TL_box; exact rfl; exact rfl; exact rfl; intro _ _) | (apply TL_alloc; exact rfl; intro _ _) | (apply TL_buildSlice; exact rfl; exact rfl; exact rfl; exact rfl; exact rfl; intro _ _))
  refine TC_cond_dec rfl (fun g2 => ?_) (fun g2 => ?_)
  · have e : cutF f b l = (zeroYd, 82) := by unfold cutF; rw [if_neg g1, if_neg (fun h => g2 (hall.2 h))]
    rw [e]
    repeat' (first | refine rn ?_ | (apply TL_box; exact rfl; exact rfl; exact rfl; intro _ _) | (apply TL_alloc; exact rfl; intro _ _) | (apply TL_buildSlice; exact rfl; exact rfl; exact rfl; exact rfl; exact rfl; intro _ _))
    exact TQ_ret2 Try.results23 (RV.celln rfl mm (by rfl)) (RV.tmp rfl) (fun w' hs => ⟨rfl, hs.below⟩)
  · have hc : cutsB b.ripe.length 0 l = true := hall.1 (Classical.not_not.1 g2)
    have e : cutF f b l = (cutR f b l, 0) := by unfold cutF; rw [if_neg g1, if_pos hc]
    rw [e]
    repeat' (first | refine rn ?_ | (apply TL_box; exact rfl; exact rfl; exact rfl; intro _ _) | (apply TL_alloc; exact rfl; intro _ _) | (apply TL_buildSlice; exact rfl; exact rfl; exact rfl; exact rfl; exact rfl; intro _ _))
    refine TL_callV rfl rfl rfl (fun w h => c60 f b ao c l lo lc hf hb (cutsB_ok hl2 hc) w (h.sl ha) (h.sl hal)) ?_
    repeat' (first | refine rn ?_ | (apply TL_box; exact rfl; exact rfl; exact rfl; intro _ _) | (apply TL_alloc; exact rfl; intro _ _) | (apply TL_buildSlice; exact rfl; exact rfl; exact rfl; exact rfl; exact rfl; intro _ _))
    exact TQ_ret2 Try.results23 (RV.celln rfl mm (by rfl)) (RV.tmp rfl) (fun w' hs => ⟨rfl, hs.below⟩)
end Go.Proofs.Ytccgplomnjpniaa
