/- Walks of the package hour: opening a clock; ends of minutes. -/
import Derived.Test.YtkpkebpofpcmaaaGreatDoorEngR
import Derived.Test.YtkpkebpofpcmaaaGreatDoorH1
namespace Go.Proofs.YtkpkebpofpcmaaaGreatDoor
open Go Go.Eng Go.RowKit Go.Proofs
set_option maxHeartbeats 1000000
set_option maxRecDepth 10000
attribute [local irreducible] TL TC TQ

def openE (k : Ck) (day : Int) : Int := if ¬ OkCk k then 30 else if ¬ In day 0 100000 then 2 else 0
def zKp : List Value := [.slice none 0 0, .slice none 0 0, .int .i64 0, .int .i64 0, .int .i64 0, .int .i64 0, .int .i64 0]
theorem c34_ok (k : Ck) (day : Int) (w : World) (hk : CkAt w k) (h : openE k day = 0) : Calls Tryz.prog 34 #[.agg (encCk k).toArray, .int .i64 day] w (RetV w (.tuple #[.agg (encKp (k, day)).toArray, .int .i64 0])) := by
  refine enter (args := [.agg (encCk k).toArray, .int .i64 day]) Tryz.func34 rfl Tryz.ntmps34 rfl (SH.refl _) ?_
  repeat' (first | refine rn ?_ | (refine zb ?_; intro _ _) | (refine za ?_; intro _ _) | (refine zs ?_; intro _ _))
  rename_i b1 _ b2 _
  refine TL_callV rfl rfl rfl (fun w h => c79 k w (hk.mono h.below)) ?_
  by_cases g1 : OkCk k
  rotate_left
  · unfold openE at h; rw [if_pos g1] at h; cases h
  by_cases g2 : In day 0 100000
  rotate_left
  · unfold openE at h; rw [if_neg (not_not_intro g1), if_pos g2] at h; cases h
  rw [chkC_ok g1]
  repeat' (first | refine rn ?_ | (refine zb ?_; intro _ _) | (refine za ?_; intro _ _) | (refine zs ?_; intro _ _))
  refine TL_callV rfl rfl rfl (fun w h => c67 0 100000 [day] _ 1 (by simp [Small]) w (Sl.of_blk h mm (fun y _ => rfl) ⟨[], rfl⟩)) ?_
  repeat' (first | refine rn ?_ | (refine zb ?_; intro _ _) | (refine za ?_; intro _ _) | (refine zs ?_; intro _ _))
  refine TC_cond_dec rfl (fun g3 => ?_) (fun g3 => ?_)
  · exact absurd (by simpa using g2) g3
  repeat' (first | refine rn ?_ | (refine zb ?_; intro _ _) | (refine za ?_; intro _ _) | (refine zs ?_; intro _ _))
  exact TQ_ret2 Tryz.results34 (RV.celln rfl mm (by rfl)) (RV.tmp rfl) (fun w' hs => ⟨rfl, hs.below⟩)
theorem c34_no (k : Ck) (day : Int) (w : World) (hk : CkAt w k) (h : openE k day ≠ 0) : Calls Tryz.prog 34 #[.agg (encCk k).toArray, .int .i64 day] w (RetV w (.tuple #[.agg zKp.toArray, .int .i64 (openE k day)])) := by
  refine enter (args := [.agg (encCk k).toArray, .int .i64 day]) Tryz.func34 rfl Tryz.ntmps34 rfl (SH.refl _) ?_
  repeat' (first | refine rn ?_ | (refine zb ?_; intro _ _) | (refine za ?_; intro _ _) | (refine zs ?_; intro _ _))
  rename_i b1 _ b2 _
  refine TL_callV rfl rfl rfl (fun w h => c79 k w (hk.mono h.below)) ?_
  by_cases g1 : OkCk k
  rotate_left
  · have e : openE k day = 30 := by unfold openE; rw [if_pos g1]
    rw [chkC_no g1, e]
    repeat' (first | refine rn ?_ | (refine zb ?_; intro _ _) | (refine za ?_; intro _ _) | (refine zs ?_; intro _ _))
    exact TQ_ret2 Tryz.results34 (RV.celln rfl mm (by rfl)) (RV.tmp rfl) (fun w' hs => ⟨rfl, hs.below⟩)
  have g2 : ¬ In day 0 100000 := fun g => h (by unfold openE; rw [if_neg (not_not_intro g1), if_neg (not_not_intro g)])
  have e : openE k day = 2 := by unfold openE; rw [if_neg (not_not_intro g1), if_pos g2]
  rw [chkC_ok g1, e]
  repeat' (first | refine rn ?_ | (refine zb ?_; intro _ _) | (refine za ?_; intro _ _) | (refine zs ?_; intro _ _))
  refine TL_callV rfl rfl rfl (fun w h => c67 0 100000 [day] _ 1 (by simp [Small]) w (Sl.of_blk h mm (fun y _ => rfl) ⟨[], rfl⟩)) ?_
  repeat' (first | refine rn ?_ | (refine zb ?_; intro _ _) | (refine za ?_; intro _ _) | (refine zs ?_; intro _ _))
  refine TC_cond_dec rfl (fun g3 => ?_) (fun g3 => ?_)
  · repeat' (first | refine rn ?_ | (refine zb ?_; intro _ _) | (refine za ?_; intro _ _) | (refine zs ?_; intro _ _))
    exact TQ_ret2 Tryz.results34 (RV.celln rfl mm (by rfl)) (RV.tmp rfl) (fun w' hs => ⟨rfl, hs.below⟩)
  · exact absurd (by simpa using g3) g2
/-! Ends of minutes, in thousandths. -/
def Nv (w : World) : Prop := Sl w 2 encSp (some ⟨0, 0, none⟩) [((1 : Int), (0 : Int))]
theorem Nv.mono {w w' : World} (h : Nv w) (hb : Below w.heap.size w w') : Nv w' := Sl.mono h hb
def ofW (s : Sp) : Sp := (wr (1000 * s.1), wr (1000 * s.2))
def downW (n : Int) : Int := if n < 0 then wr (-(wr ((wr (wr (wr (-n) + 1000) - 1)).tdiv 1000))) else wr (n.tdiv 1000)
def minW (e : Sp) : Sp := (downW e.1, wr (-(downW (wr (-e.2)))))
def cutE (a e : Sp) : Sp := (max a.1 e.1, min a.2 e.2)
def comW (a : Sp) (l : List Sp) : Sp := if (l.foldl cutE a).1 ≤ (l.foldl cutE a).2 then l.foldl cutE a else (1, 0)
theorem c83 (e : Sp) (w : World) : Calls Tryz.prog 83 #[.agg (encSp e).toArray] w (RetV w (.bool (decide (e.1 ≤ e.2)))) := by
  refine enter (args := [.agg (encSp e).toArray]) Tryz.func83 rfl Tryz.ntmps83 rfl (SH.refl _) ?_
  repeat' (first | refine rn ?_ | (refine zb ?_; intro _ _) | (refine za ?_; intro _ _) | (refine zs ?_; intro _ _) | (refine ra ?_))
  exact TQ_ret1 Tryz.results83 (RV.tmp rfl) (fun w' hs => ⟨rfl, hs.below⟩)
theorem c81 (s : Sp) (w : World) : Calls Tryz.prog 81 #[.agg (encSp s).toArray] w (RetV w (.agg (encSp (ofW s)).toArray)) := by
  refine enter (args := [.agg (encSp s).toArray]) Tryz.func81 rfl Tryz.ntmps81 rfl (SH.refl _) ?_
  repeat' (first | refine rn ?_ | (refine zb ?_; intro _ _) | (refine za ?_; intro _ _) | (refine zs ?_; intro _ _) | (refine wo ?_))
  exact TQ_ret1 Tryz.results81 (RV.celln rfl mm (by rfl)) (fun w' hs => ⟨rfl, hs.below⟩)
theorem c84 (n : Int) (w : World) : Calls Tryz.prog 84 #[.int .i64 n] w (RetV w (.int .i64 (downW n))) := by
  refine enter (args := [.int .i64 n]) Tryz.func84 rfl Tryz.ntmps84 rfl (SH.refl _) ?_
  repeat' (first | refine rn ?_ | (refine zb ?_; intro _ _) | (refine za ?_; intro _ _) | (refine zs ?_; intro _ _))
  refine TC_cond_dec rfl (fun g => ?_) (fun g => ?_)
  · have e : downW n = wr (-(wr ((wr (wr (wr (-n) + 1000) - 1)).tdiv 1000))) := if_pos g
    rw [e]
    refine TC_seq (TC_region ?_)
    refine r1 ?_
    iterate 5 refine wo ?_
    repeat' (first | refine rn ?_ | (refine zb ?_; intro _ _) | (refine za ?_; intro _ _) | (refine zs ?_; intro _ _))
    exact TQ_ret1 Tryz.results84 (RV.tmp rfl) (fun w' hs => ⟨rfl, hs.below⟩)
  · have e : downW n = wr (n.tdiv 1000) := if_neg g
    rw [e]
    repeat' (first | refine rn ?_ | (refine zb ?_; intro _ _) | (refine za ?_; intro _ _) | (refine zs ?_; intro _ _))
    refine wo ?_
    repeat' (first | refine rn ?_ | (refine zb ?_; intro _ _) | (refine za ?_; intro _ _) | (refine zs ?_; intro _ _))
    exact TQ_ret1 Tryz.results84 (RV.tmp rfl) (fun w' hs => ⟨rfl, hs.below⟩)
theorem c39 (e : Sp) (w : World) : Calls Tryz.prog 39 #[.agg (encSp e).toArray] w (RetV w (.agg (encSp (minW e)).toArray)) := by
  refine enter (args := [.agg (encSp e).toArray]) Tryz.func39 rfl Tryz.ntmps39 rfl (SH.refl _) ?_
  repeat' (first | refine rn ?_ | (refine zb ?_; intro _ _) | (refine za ?_; intro _ _) | (refine zs ?_; intro _ _))
  apply TC_draw 9; kernel_rfl; exact Tryz.mixed
  · (refine' PG.val rfl rfl (by intro _X; refine ra ?_; exact qe) ?_; rotate_left)
    (refine' pv ?_; rotate_left)
    (refine' PG.val rfl rfl (by intro _X; refine TL_callV rfl rfl rfl (fun w h => c84 _ w) ?_; exact qe) ?_; rotate_left)
    (refine' PG.val rfl rfl (by intro _X; refine ra ?_; exact qe) ?_; rotate_left)
    (refine' pv ?_; rotate_left)
    (refine' PG.val rfl rfl (by intro _X; refine wo ?_; exact qe) ?_; rotate_left)
    (refine' PG.val rfl rfl (by intro _X; refine TL_callV rfl rfl rfl (fun w h => c84 _ w) ?_; exact qe) ?_; rotate_left)
    (refine' PG.val rfl rfl (by intro _X; refine wo ?_; exact qe) ?_; rotate_left)
    (refine' pv ?_; rotate_left)
    exact PG.nil
  change TL _ _ _ _ _ _ _ _ _ _ _
  repeat' (first | refine rn ?_ | (refine zb ?_; intro _ _) | (refine za ?_; intro _ _) | (refine zs ?_; intro _ _))
  exact TQ_ret1 Tryz.results39 (RV.celln rfl mm (by rfl)) (fun w' hs => ⟨rfl, hs.below⟩)
theorem c38 (a : Sp) (l : List Sp) (ao : Option Addr) (c : Nat) (hn : Small l.length) (w : World) (hl : Sl w 2 encSp ao l) (hv : Nv w) :
    Calls Tryz.prog 38 #[.agg (encSp a).toArray, .slice ao l.length c] w (RetV w (.agg (encSp (comW a l)).toArray)) := by
  unfold Small at hn
  refine enter (args := [.agg (encSp a).toArray, .slice ao l.length c]) Tryz.func38 rfl Tryz.ntmps38 rfl (SH.refl _) ?_
  repeat' (first | refine rn ?_ | (refine zb ?_; intro _ _) | (refine za ?_; intro _ _) | (refine zs ?_; intro _ _))
  rename_i b1 _ b2 _
  refine TC_loop (σ := Nat) (fun k => k ≤ l.length) (fun k => [(2, .pointer (some ⟨b1, 0, none⟩)), (4, .pointer (some ⟨b2, 0, none⟩)), (7, .slice ao l.length c), (8, .int .i64 l.length), (9, .int .i64 k)]) (fun k => [(b2, .cells (encSp (0, 0)) 106), (b1, .cells (encSp ((l.take k).foldl cutE a)) 106)]) (fun k => l.length - k) 0 (Nat.zero_le _) sb (fun w h => h) (fun k hk => ?_)
  repeat' (first | refine rn ?_ | (refine zb ?_; intro _ _) | (refine za ?_; intro _ _) | (refine zs ?_; intro _ _))
  refine TC_cond_dec rfl (fun h1 => ?_) (fun h1 => ?_)
  · have hlt : k < l.length := by omega
    obtain ⟨x, hx⟩ : ∃ x, l[k]? = some x := ⟨_, List.getElem?_eq_getElem hlt⟩
    repeat' (first | refine rn ?_ | (refine zb ?_; intro _ _) | (refine za ?_; intro _ _) | (refine zs ?_; intro _ _))
    refine TL_index k rfl rfl rfl (fun w h => h.sl hl) rfl hlt (Nat.le_refl _) ?_
    refine TL_load_eln (u := x) rfl rfl (fun w h => h.sl hl) hx rfl ?_
    repeat' (first | refine rn ?_ | (refine zb ?_; intro _ _) | (refine za ?_; intro _ _) | (refine zs ?_; intro _ _) | (refine ra ?_))
    refine TQ_round (k + 1) hlt (by omega) sb (fun w h => ?_)
    rw [List.take_add_one, hx, List.foldl_append]
    exact h.sub sl
  · have hkl : k = l.length := by omega
    subst hkl
    rw [List.take_length]
    repeat' (first | refine rn ?_ | (refine zb ?_; intro _ _) | (refine za ?_; intro _ _) | (refine zs ?_; intro _ _))
    refine TL_callV rfl rfl rfl (fun w h => c83 _ w) ?_
    repeat' (first | refine rn ?_ | (refine zb ?_; intro _ _) | (refine za ?_; intro _ _) | (refine zs ?_; intro _ _))
    refine TC_cond_dec rfl (fun g => ?_) (fun g => ?_)
    · repeat' (first | refine rn ?_ | (refine zb ?_; intro _ _) | (refine za ?_; intro _ _) | (refine zs ?_; intro _ _))
      refine TL_load_eln (i := 0) (o := 0) rfl rfl (fun w h => h.sl hv) rfl rfl ?_
      repeat' (first | refine rn ?_ | (refine zb ?_; intro _ _) | (refine za ?_; intro _ _) | (refine zs ?_; intro _ _))
      exact TQ_ret1 Tryz.results38 (RV.celln rfl mm (by rfl)) (fun w' hs => ⟨by unfold comW; rw [if_neg g]; rfl, hs.below⟩)
    · repeat' (first | refine rn ?_ | (refine zb ?_; intro _ _) | (refine za ?_; intro _ _) | (refine zs ?_; intro _ _))
      exact TQ_ret1 Tryz.results38 (RV.celln rfl mm (by rfl)) (fun w' hs => ⟨by unfold comW; rw [if_pos (Classical.not_not.1 g)]; rfl, hs.below⟩)
end Go.Proofs.YtkpkebpofpcmaaaGreatDoor
