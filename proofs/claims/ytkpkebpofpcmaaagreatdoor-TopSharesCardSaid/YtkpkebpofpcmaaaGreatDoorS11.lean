/- Walks: the nth choice, a net's twin; the example of chapter 5. Walks: the statement TopTold. -/
import Derived.Test.YtkpkebpofpcmaaaGreatDoorEngR
import Derived.Test.YtkpkebpofpcmaaaGreatDoorS13
import Derived.Test.YtkpkebpofpcmaaaGreatDoorC7
import Derived.Test.YtkpkebpofpcmaaaGreatDoorS12
namespace Go.Proofs.YtkpkebpofpcmaaaGreatDoor
open Go Go.Eng Go.RowKit Go.Proofs
set_option maxHeartbeats 4000000
set_option maxRecDepth 10000
attribute [local irreducible] TL TC TQ

def nthM (l : List Int) (i : Int) : Int := if (l.length : Int) = 0 then 0 else l.getD (i % l.length).toNat 0
theorem c29 (l : List Int) (ao : Option Addr) (c : Nat) (i : Int) (hi : 0 ≤ i) (w : World) (hl : Sl w 1 encU ao l) : Calls Tryz.prog 29 #[.slice ao l.length c, .int .i64 i] w (RetV w (.int .u32 (nthM l i))) := by
  unfold nthM
  refine enter (args := [.slice ao l.length c, .int .i64 i]) Tryz.func29 rfl Tryz.ntmps29 rfl (SH.refl _) ?_
  repeat' (first | refine rn ?_ | (refine zb ?_; intro _ _) | (refine za ?_; intro _ _) | (refine zs ?_; intro _ _))
  refine TC_cond_dec rfl (fun g1 => ?_) (fun g1 => ?_)
  · rw [if_pos g1]
    repeat' (first | refine rn ?_ | (refine zb ?_; intro _ _) | (refine za ?_; intro _ _) | (refine zs ?_; intro _ _))
    exact TQ_ret1 Tryz.results29 (RV.tmp rfl) (fun w' hs => ⟨rfl, hs.below⟩)
  · rw [if_neg g1]
    have h1 : 0 ≤ i % (l.length : Int) := Int.emod_nonneg _ g1
    have h2 : i % (l.length : Int) < l.length := Int.emod_lt_of_pos _ (by omega)
    obtain ⟨k, hk⟩ : ∃ k, k = (i % (l.length : Int)).toNat := ⟨_, rfl⟩
    have hkl : k < l.length := by omega
    obtain ⟨x, hx⟩ : ∃ x, l[k]? = some x := ⟨_, List.getElem?_eq_getElem hkl⟩
    have ex : l.getD (i % (l.length : Int)).toNat 0 = x := by rw [← hk, List.getD_eq_getElem?_getD, hx]; rfl
    rw [ex]
    repeat' (first | refine rn ?_ | (refine zb ?_; intro _ _) | (refine za ?_; intro _ _) | (refine zs ?_; intro _ _))
    refine TL_index k rfl rfl rfl (fun w h => h.sl hl) (by omega) hkl (Nat.le_refl _) ?_
    refine TL_load_el1 (u := x) rfl rfl (fun w h => h.sl hl) hx rfl ?_
    repeat' (first | refine rn ?_ | (refine zb ?_; intro _ _) | (refine za ?_; intro _ _) | (refine zs ?_; intro _ _))
    exact TQ_ret1 Tryz.results29 (RV.tmp rfl) (fun w' hs => ⟨rfl, hs.below⟩)
def twN (n : Nt) (q : RwQ × RwQ) : Nt := { n with cao := q.1.1, cc := q.1.2.1, fao := q.2.1, fc := q.2.2.1 }
theorem c28 (n : Nt) (hg1 : n.canals.length ≤ 24) (hg2 : n.fields.length ≤ 18) (w : World) (hnc : Sl w 5 encCn n.cao n.canals) (hnf : Sl w 1 encI n.fao n.fields) :
    Calls Tryz.prog 28 #[.agg (encNt n).toArray] w (RetP w.heap.size w (fun q : RwQ × RwQ => .agg (encNt (twN n q)).toArray) (fun q => q.2.2.2 ++ q.1.2.2) (fun q => RowE 87 5 encCn q.1.1 q.1.2.1 q.1.2.2 n.canals ∧ RowE 3 1 encI q.2.1 q.2.2.1 q.2.2.2 n.fields)) := by
  refine enter (args := [.agg (encNt n).toArray]) Tryz.func28 rfl Tryz.ntmps28 rfl (SH.refl _) ?_
  repeat' (first | refine rn ?_ | (refine zb ?_; intro _ _) | (refine za ?_; intro _ _) | (refine zs ?_; intro _ _))
  rename_i b1 _ b2 _ b3 _
  refine TL_append0 (l2 := n.canals) (enc := encCn) rfl (by rfl) rfl rfl rfl (fun w h => h.sl hnc) (fun u _ => rfl) (by omega) (by simp only [maxLen]; omega) (fun co cc cb hrc => ?_)
  repeat' (first | refine rn ?_ | (refine zb ?_; intro _ _) | (refine za ?_; intro _ _) | (refine zs ?_; intro _ _))
  rename_i b4 _
  refine TL_append0 (l2 := n.fields) (enc := encI) rfl (by rfl) rfl rfl rfl (fun w h => h.sl hnf) (fun u _ => rfl) (by omega) (by simp only [maxLen]; omega) (fun fo fc fb hrf => ?_)
  repeat' (first | refine rn ?_ | (refine zb ?_; intro _ _) | (refine za ?_; intro _ _) | (refine zs ?_; intro _ _))
  exact TQ_ret1 Tryz.results28 (RV.celln rfl mm (by rfl)) (fun w' hs => ⟨((co, cc, cb), (fo, fc, fb)), ⟨hrc, hrf⟩, rfl, hs.sub (List.Sublist.append_left (List.Sublist.cons _ (List.sublist_append_left _ _)) _)⟩)
theorem pipe_noS (b1 b2 : Nat) : NoS (pipeN b1 b2) := fun c hc => by
  have : c ∈ [cn0] := hc
  rw [List.mem_singleton.1 this]; exact ⟨rfl, rfl⟩
def usP : List Us := [⟨0, (5, 15)⟩]
theorem c27 (w : World) (hv : Nv w) : Calls Tryz.prog 27 #[] w (RetV w (.bool true)) := by
  refine enter (args := []) Tryz.func27 rfl Tryz.ntmps27 rfl (SH.refl _) ?_
  repeat' (first | refine rn ?_ | (refine zb ?_; intro _ _) | (refine za ?_; intro _ _) | (refine zs ?_; intro _ _))
  refine TL_callN rfl rfl rfl (fun w h => c44 w) ?_
  rintro ⟨p1, p2⟩ _
  dsimp only
  refine TL_callV rfl rfl rfl (fun w h => c30 2 3 w) ?_
  repeat' (first | refine rn ?_ | (refine zb ?_; intro _ _) | (refine za ?_; intro _ _) | (refine zs ?_; intro _ _))
  rename_i bu _
  refine TL_callN rfl rfl rfl (fun w h => c20 (pipeN p1 p2) (pipe_ok p1 p2) (2, 3) ⟨by decide, by decide, by decide⟩ usP (some ⟨bu, 0, none⟩) 1 (by decide) ⟨⟨by decide, show (0 : Int) ≤ (1 : Nat) - 1 by decide⟩, by decide, by decide, show (15 : Int) ≤ 1 * 1440 by decide, trivial⟩ w (Sl.of_blk h mm (fun _ _ => rfl) ⟨[], rfl⟩) (Sl.of_blk h mm (fun _ _ => rfl) ⟨[], rfl⟩) (Sl.of_blk (enc := encUs) (k := 3) (l := usP) h (List.Mem.head _) (fun _ _ => rfl) ⟨[], rfl⟩)) ?_
  rintro ⟨bF, bL, cF, cL, F, L⟩ ⟨hF, hL, _, _, dls, hd, he⟩
  dsimp only at hF hL he ⊢
  have hw := wat_dry (pipe_ok p1 p2) (pipe_noS p1 p2) (f := (2, 3)) ⟨by decide, by decide, by decide⟩ (us := usP) (dls := dls) ⟨⟨by decide, show (0 : Int) ≤ (1 : Nat) - 1 by decide⟩, by decide, by decide, show (15 : Int) ≤ 1 * 1440 by decide, trivial⟩ hd he
  obtain ⟨hFl, hL0, hF0⟩ := hw
  have hF1 : F[0]? = some (20, 30) := hF0 0 (by show 0 < 1; decide)
  have hFl1 : F.length = 1 := hFl
  have hL1 : L[0]? = some (0, 0) := by rw [hL0]; rfl
  have hLl1 : L.length = 1 := by rw [hL0]; rfl
  have f1 : (pipeN p1 p2).fields.length = 1 := rfl
  have f2 : (pipeN p1 p2).canals.length = 1 := rfl
  rw [f1] at hF ⊢
  rw [f2] at hL ⊢
  repeat' (first | refine rn ?_ | (refine zb ?_; intro _ _) | (refine za ?_; intro _ _) | (refine zs ?_; intro _ _))
  apply TC_draw 29; kernel_rfl; exact Tryz.mixed
  · (refine' PG.val rfl rfl (by intro _X; refine TL_callV rfl rfl rfl (fun w h => c21 w (hv.mono h.below)) ?_; exact qe) ?_; rotate_left)
    (refine' pv ?_; rotate_left)
    iterate 2 (refine' pg ?_; rotate_left)
    iterate 2 (refine' pv ?_; rotate_left)
    iterate 3 (refine' pg ?_; rotate_left)
    iterate 2 (refine' pv ?_; rotate_left)
    (refine' pg ?_; rotate_left)
    (refine' PG.val rfl rfl (by intro _X; (refine TL_guard_yes rfl rfl rfl ?_); refine TL_index 0 rfl rfl rfl (fun w h => hF.sl h (fun p hp => by rw [List.mem_singleton.1 hp]; exact mm)) rfl (by omega) (by omega) ?_; exact qe) ?_; rotate_left)
    (refine' PG.val rfl rfl (by intro _X; (refine TL_guard_yes rfl rfl rfl ?_); refine TL_load_eln (u := ((20 : Int), (30 : Int))) rfl rfl (fun w h => hF.sl h (fun p hp => by rw [List.mem_singleton.1 hp]; exact mm)) hF1 rfl ?_; exact qe) ?_; rotate_left)
    (refine' PG.val rfl rfl (by intro _X; (refine TL_guard_yes rfl rfl rfl ?_); refine TL_callV rfl rfl rfl (fun w h => c30 20 30 w) ?_; exact qe) ?_; rotate_left)
    (refine' pg ?_; rotate_left)
    iterate 2 (refine' pv ?_; rotate_left)
    iterate 3 (refine' pg ?_; rotate_left)
    iterate 2 (refine' pv ?_; rotate_left)
    (refine' pg ?_; rotate_left)
    (refine' PG.val rfl rfl (by intro _X; (refine TL_guard_yes rfl rfl rfl ?_); refine TL_index 0 rfl rfl rfl (fun w h => hL.sl h (fun p hp => by rw [List.mem_singleton.1 hp]; exact mm)) rfl (by omega) (by omega) ?_; exact qe) ?_; rotate_left)
    (refine' PG.val rfl rfl (by intro _X; (refine TL_guard_yes rfl rfl rfl ?_); refine TL_load_eln (u := ((0 : Int), (0 : Int))) rfl rfl (fun w h => hL.sl h (fun p hp => by rw [List.mem_singleton.1 hp]; exact mm)) hL1 rfl ?_; exact qe) ?_; rotate_left)
    (refine' PG.val rfl rfl (by intro _X; (refine TL_guard_yes rfl rfl rfl ?_); refine TL_callV rfl rfl rfl (fun w h => c30 0 0 w) ?_; exact qe) ?_; rotate_left)
    (refine' pg ?_; rotate_left)
    (refine' pv ?_; rotate_left)
    exact PG.nil
  change TL _ _ _ _ _ _ _ _ _ _ _
  repeat' (first | refine rn ?_ | (refine zb ?_; intro _ _) | (refine za ?_; intro _ _) | (refine zs ?_; intro _ _))
  exact TQ_ret1 Tryz.results27 (RV.tmp rfl) (fun w' hs => ⟨rfl, hs.below⟩)
end Go.Proofs.YtkpkebpofpcmaaaGreatDoor

namespace Go.Proofs.YtkpkebpofpcmaaaGreatDoor
open Go Go.Eng Go.RowKit Go.Proofs
set_option maxHeartbeats 4000000
set_option maxRecDepth 10000
attribute [local irreducible] TL TC TQ

def grtD (r : Ro) (l : List Dd) : Bool := decide (80 < (r.holds.length : Int) ∨ 80 < (l.length : Int) ∨ ∃ x ∈ l, 12 < (x.heirs.length : Int))
theorem c22 (r : Ro) (l : List Dd) (ao : Option Addr) (c : Nat) (w : World) (hl : Sl w 9 encDd ao l) : Calls Tryz.prog 22 #[.agg (encRo r).toArray, .slice ao l.length c] w (RetV w (.bool (grtD r l))) := by
  unfold grtD
  refine enter (args := [.agg (encRo r).toArray, .slice ao l.length c]) Tryz.func22 rfl Tryz.ntmps22 rfl (SH.refl _) ?_
  repeat' (first | refine rn ?_ | (refine zb ?_; intro _ _) | (refine za ?_; intro _ _) | (refine zs ?_; intro _ _))
  refine TL_gsplit_dec rfl rfl (fun g1 => ?_) (fun g1 => ?_)
  · repeat' (first | refine rn ?_ | (refine zb ?_; intro _ _) | (refine za ?_; intro _ _) | (refine zs ?_; intro _ _))
    exact TQ_ret1 Tryz.results22 (RV.tmp rfl) (fun w' hs => RetV.yes (.inl g1) hs.below)
  repeat' (first | refine rn ?_ | (refine zb ?_; intro _ _) | (refine za ?_; intro _ _) | (refine zs ?_; intro _ _))
  refine TC_cond_dec rfl (fun g2 => ?_) (fun g2 => ?_)
  · repeat' (first | refine rn ?_ | (refine zb ?_; intro _ _) | (refine za ?_; intro _ _) | (refine zs ?_; intro _ _))
    exact TQ_ret1 Tryz.results22 (RV.tmp rfl) (fun w' hs => RetV.yes (.inr (.inl g2)) hs.below)
  repeat' (first | refine rn ?_ | (refine zb ?_; intro _ _) | (refine za ?_; intro _ _) | (refine zs ?_; intro _ _))
  refine TC_loop (σ := Nat) (fun k => k ≤ l.length ∧ ∀ (i : Nat) x, i < k → l[i]? = some x → ¬ 12 < (x.heirs.length : Int)) (fun k => [(1, .slice ao l.length c), (5, .int .i64 k)]) (fun _ => []) (fun k => l.length - k) 0 ⟨Nat.zero_le _, fun i x h => by omega⟩ sb (fun w h => h.sub (List.nil_sublist _)) (fun k hk => ?_)
  obtain ⟨hk, hno⟩ := hk
  repeat' (first | refine rn ?_ | (refine zb ?_; intro _ _) | (refine za ?_; intro _ _) | (refine zs ?_; intro _ _))
  refine TC_cond_dec rfl (fun g3 => ?_) (fun g3 => ?_)
  · have hlt : k < l.length := by omega
    obtain ⟨x, hx⟩ : ∃ x, l[k]? = some x := ⟨_, List.getElem?_eq_getElem hlt⟩
    have hne : l ≠ [] := fun e => by rw [e] at hlt; simp at hlt
    repeat' (first | refine rn ?_ | (refine zb ?_; intro _ _) | (refine za ?_; intro _ _) | (refine zs ?_; intro _ _))
    refine TL_index k rfl rfl rfl (fun w h => h.sl hl) rfl hlt (Nat.le_refl _) ?_
    refine TL_fieldAddr_el rfl rfl (fun w h => h.sl hl) hne ?_
    refine TL_load_el1 (u := x) rfl rfl (fun w h => h.sl hl) hx rfl ?_
    repeat' (first | refine rn ?_ | (refine zb ?_; intro _ _) | (refine za ?_; intro _ _) | (refine zs ?_; intro _ _))
    refine TC_cond_dec rfl (fun g4 => ?_) (fun g4 => ?_)
    · repeat' (first | refine rn ?_ | (refine zb ?_; intro _ _) | (refine za ?_; intro _ _) | (refine zs ?_; intro _ _))
      exact TQ_ret1 Tryz.results22 (RV.tmp rfl) (fun w' hs => RetV.yes (.inr (.inr ⟨x, List.mem_of_getElem? hx, g4⟩)) hs.below)
    · repeat' (first | refine rn ?_ | (refine zb ?_; intro _ _) | (refine za ?_; intro _ _) | (refine zs ?_; intro _ _))
      refine TQ_round (k + 1) ⟨hlt, fun i y hi hy => ?_⟩ (by omega) sb (fun w h => h)
      rcases Nat.lt_or_ge i k with h | h
      · exact hno i y h hy
      · have : i = k := by omega
        subst this; rw [hx] at hy; cases hy; exact g4
  · repeat' (first | refine rn ?_ | (refine zb ?_; intro _ _) | (refine za ?_; intro _ _) | (refine zs ?_; intro _ _))
    refine TQ_ret1 Tryz.results22 (RV.tmp rfl) (fun w' hs => RetV.no (fun h => ?_) hs.below)
    rcases h with h | h | ⟨x, hx, h⟩
    · exact g1 h
    · exact g2 h
    · obtain ⟨i, hi, rfl⟩ := List.getElem_of_mem hx
      exact hno i _ (by omega) (List.getElem?_eq_getElem hi) h
end Go.Proofs.YtkpkebpofpcmaaaGreatDoor
