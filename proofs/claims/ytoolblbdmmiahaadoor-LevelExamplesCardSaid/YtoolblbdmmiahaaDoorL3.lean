/- Walks: Great, Twin, SameSpans, SameInts, Same. -/
import Derived.Test.YtoolblbdmmiahaaDoorL2
namespace Go.Proofs.YtoolblbdmmiahaaDoor
open Go Go.Eng Go.RowKit Go.Proofs
set_option maxHeartbeats 4000000
set_option maxRecDepth 10000
attribute [local irreducible] TL TC TQ

def GreatS (S : Sv) : Prop := 90 < S.shots.length ∨ 30 < S.marks.length ∨ 50 < S.thr.length
instance (S : Sv) : Decidable (GreatS S) := inferInstanceAs (Decidable (_ ∨ _))
/-- Where the lists of a twin lie, and the blocks. -/
structure Tw where
  p : Pl
  o1 : Hp
  o2 : Hp
  o3 : Hp
def Tw.hp (q : Tw) : Hp := q.o3 ++ (q.o2 ++ q.o1)
structure TwAt (S : Sv) (q : Tw) : Prop where
  r1 : RowE 49 4 encSh q.p.a1 q.p.c1 q.o1 S.shots
  r2 : RowE 59 3 encMk q.p.a2 q.p.c2 q.o2 S.marks
  r3 : RowE 61 4 encTh q.p.a3 q.p.c3 q.o3 S.thr
theorem TwAt.sv {S : Sv} {q : Tw} {B : Nat} {w0 w : World} {H : Hp} (h : TwAt S q) (hs : SH B w0 w H) (hm : ∀ x ∈ q.hp, x ∈ H) : SvAt w S q.p :=
  ⟨h.r1.sl hs (fun x hx => hm x (List.mem_append_right _ (List.mem_append_right _ hx))), h.r2.sl hs (fun x hx => hm x (List.mem_append_right _ (List.mem_append_left _ hx))), h.r3.sl hs (fun x hx => hm x (List.mem_append_left _ hx))⟩
theorem c22 (l : List Sp) (ao bo : Option Addr) (ca cb : Nat) (hl : l.length ≤ 1000000) (w : World) (ha : Sl w 2 encSp ao l) (hb : Sl w 2 encSp bo l) :
    Calls Tryd.prog 17 #[.slice ao l.length ca, .slice bo l.length cb] w (RetV w (.bool true)) := by
  refine enter (args := [.slice ao l.length ca, .slice bo l.length cb]) Tryd.func17 rfl Tryd.ntmps17 rfl (SH.refl _) ?_
  repeat' (first | (refine TL_neq_same rfl rfl rfl ?_) | refine r1 ?_ | (apply TL_box; exact rfl; exact rfl; exact rfl; intro _ _) | (apply TL_alloc; exact rfl; intro _ _) | (apply TL_buildSlice; exact rfl; exact rfl; exact rfl; exact rfl; exact rfl; intro _ _))
  refine TC_loop (σ := Nat) (fun k => k ≤ l.length) (fun k => [(0, .slice ao l.length ca), (1, .slice bo l.length cb), (5, .int .i64 k)]) (fun k => []) (fun k => l.length - k) 0 (Nat.zero_le _) sb (fun w h => h) (fun k hk => ?_)
  repeat' (first | refine rn ?_ | (apply TL_box; exact rfl; exact rfl; exact rfl; intro _ _) | (apply TL_alloc; exact rfl; intro _ _) | (apply TL_buildSlice; exact rfl; exact rfl; exact rfl; exact rfl; exact rfl; intro _ _))
  refine TC_cond_dec rfl (fun h1 => ?_) (fun h1 => ?_)
  · have hlt : k < l.length := by omega
    obtain ⟨x, hx⟩ : ∃ x, l[k]? = some x := ⟨_, List.getElem?_eq_getElem hlt⟩
    repeat' (first | refine rn ?_ | (apply TL_box; exact rfl; exact rfl; exact rfl; intro _ _) | (apply TL_alloc; exact rfl; intro _ _) | (apply TL_buildSlice; exact rfl; exact rfl; exact rfl; exact rfl; exact rfl; intro _ _))
    apply TC_draw 9; kernel_rfl; exact Tryd.mixed
    · iterate 2 (refine' pv ?_; rotate_left)
      (refine' PG.val rfl rfl (by intro _X; refine TL_index k rfl rfl rfl (fun w h => h.sl ha) rfl hlt (Nat.le_refl _) ?_; exact qe) ?_; rotate_left)
      (refine' PG.val rfl rfl (by intro _X; refine TL_load_eln (u := x) rfl rfl (fun w h => h.sl ha) hx rfl ?_; exact qe) ?_; rotate_left)
      iterate 2 (refine' pv ?_; rotate_left)
      (refine' PG.val rfl rfl (by intro _X; refine TL_index k rfl rfl rfl (fun w h => h.sl hb) rfl hlt (Nat.le_refl _) ?_; exact qe) ?_; rotate_left)
      (refine' PG.val rfl rfl (by intro _X; refine TL_load_eln (u := x) rfl rfl (fun w h => h.sl hb) hx rfl ?_; exact qe) ?_; rotate_left)
      (refine' PG.val rfl rfl (by intro _X; refine TL_neqS_same rfl rfl rfl rfl rfl rfl rfl ?_; exact qe) ?_; rotate_left)
      exact PG.nil
    change TL _ _ _ _ _ _ _ _ _ _ _
    repeat' (first | refine rn ?_ | (apply TL_box; exact rfl; exact rfl; exact rfl; intro _ _) | (apply TL_alloc; exact rfl; intro _ _) | (apply TL_buildSlice; exact rfl; exact rfl; exact rfl; exact rfl; exact rfl; intro _ _))
    refine TQ_round (k + 1) hlt (by omega) sb (fun w h => h)
  · repeat' (first | refine rn ?_ | (apply TL_box; exact rfl; exact rfl; exact rfl; intro _ _) | (apply TL_alloc; exact rfl; intro _ _) | (apply TL_buildSlice; exact rfl; exact rfl; exact rfl; exact rfl; exact rfl; intro _ _))
    exact TQ_ret1 Tryd.results17 (RV.tmp rfl) (fun w' hs => ⟨rfl, hs.below⟩)
theorem c30 (l : List Int) (ao bo : Option Addr) (ca cb : Nat) (hl : l.length ≤ 1000000) (w : World) (ha : Sl w 1 encI ao l) (hb : Sl w 1 encI bo l) :
    Calls Tryd.prog 18 #[.slice ao l.length ca, .slice bo l.length cb] w (RetV w (.bool true)) := by
  refine enter (args := [.slice ao l.length ca, .slice bo l.length cb]) Tryd.func18 rfl Tryd.ntmps18 rfl (SH.refl _) ?_
  repeat' (first | (refine TL_neq_same rfl rfl rfl ?_) | refine r1 ?_ | (apply TL_box; exact rfl; exact rfl; exact rfl; intro _ _) | (apply TL_alloc; exact rfl; intro _ _) | (apply TL_buildSlice; exact rfl; exact rfl; exact rfl; exact rfl; exact rfl; intro _ _))
  refine TC_loop (σ := Nat) (fun k => k ≤ l.length) (fun k => [(0, .slice ao l.length ca), (1, .slice bo l.length cb), (5, .int .i64 k)]) (fun k => []) (fun k => l.length - k) 0 (Nat.zero_le _) sb (fun w h => h) (fun k hk => ?_)
  repeat' (first | refine rn ?_ | (apply TL_box; exact rfl; exact rfl; exact rfl; intro _ _) | (apply TL_alloc; exact rfl; intro _ _) | (apply TL_buildSlice; exact rfl; exact rfl; exact rfl; exact rfl; exact rfl; intro _ _))
  refine TC_cond_dec rfl (fun h1 => ?_) (fun h1 => ?_)
  · have hlt : k < l.length := by omega
    obtain ⟨x, hx⟩ : ∃ x, l[k]? = some x := ⟨_, List.getElem?_eq_getElem hlt⟩
    repeat' (first | refine rn ?_ | (apply TL_box; exact rfl; exact rfl; exact rfl; intro _ _) | (apply TL_alloc; exact rfl; intro _ _) | (apply TL_buildSlice; exact rfl; exact rfl; exact rfl; exact rfl; exact rfl; intro _ _))
    apply TC_draw 9; kernel_rfl; exact Tryd.mixed
    · iterate 2 (refine' pv ?_; rotate_left)
      (refine' PG.val rfl rfl (by intro _X; refine TL_index k rfl rfl rfl (fun w h => h.sl ha) rfl hlt (Nat.le_refl _) ?_; exact qe) ?_; rotate_left)
      (refine' PG.val rfl rfl (by intro _X; refine TL_load_el1 (u := x) rfl rfl (fun w h => h.sl ha) hx rfl ?_; exact qe) ?_; rotate_left)
      iterate 2 (refine' pv ?_; rotate_left)
      (refine' PG.val rfl rfl (by intro _X; refine TL_index k rfl rfl rfl (fun w h => h.sl hb) rfl hlt (Nat.le_refl _) ?_; exact qe) ?_; rotate_left)
      (refine' PG.val rfl rfl (by intro _X; refine TL_load_el1 (u := x) rfl rfl (fun w h => h.sl hb) hx rfl ?_; exact qe) ?_; rotate_left)
      (refine' PG.val rfl rfl (by intro _X; refine TL_neq_same rfl rfl rfl ?_; exact qe) ?_; rotate_left)
      exact PG.nil
    change TL _ _ _ _ _ _ _ _ _ _ _
    repeat' (first | refine rn ?_ | (apply TL_box; exact rfl; exact rfl; exact rfl; intro _ _) | (apply TL_alloc; exact rfl; intro _ _) | (apply TL_buildSlice; exact rfl; exact rfl; exact rfl; exact rfl; exact rfl; intro _ _))
    refine TQ_round (k + 1) hlt (by omega) sb (fun w h => h)
  · repeat' (first | refine rn ?_ | (apply TL_box; exact rfl; exact rfl; exact rfl; intro _ _) | (apply TL_alloc; exact rfl; intro _ _) | (apply TL_buildSlice; exact rfl; exact rfl; exact rfl; exact rfl; exact rfl; intro _ _))
    exact TQ_ret1 Tryd.results18 (RV.tmp rfl) (fun w' hs => ⟨rfl, hs.below⟩)
end Go.Proofs.YtoolblbdmmiahaaDoor
