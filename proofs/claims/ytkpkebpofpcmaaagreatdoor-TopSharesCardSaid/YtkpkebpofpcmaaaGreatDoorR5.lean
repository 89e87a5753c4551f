/- Walks of the references of chapters 3 and 5: clocks and nets that are valid, spans that are the same. -/
import Derived.Test.YtkpkebpofpcmaaaGreatDoorC1
namespace Go.Proofs.YtkpkebpofpcmaaaGreatDoor
open Go Go.Eng Go.RowKit Go.Proofs
set_option maxHeartbeats 4000000
set_option maxRecDepth 10000
attribute [local irreducible] TL TC TQ

theorem c46 (n lo hi : Int) (w : World) : Calls Tryz.prog 46 #[.int .i64 n, .int .i64 lo, .int .i64 hi] w (RetV w (.bool (decide (In n lo hi)))) := by
  refine enter (args := [.int .i64 n, .int .i64 lo, .int .i64 hi]) Tryz.func46 rfl Tryz.ntmps46 rfl (SH.refl _) ?_
  repeat' (first | refine rn ?_ | (refine zb ?_; intro _ _) | (refine za ?_; intro _ _) | (refine zs ?_; intro _ _))
  refine TL_gsplit_dec rfl rfl (fun g1 => ?_) (fun g1 => ?_)
  · repeat' (first | refine rn ?_ | (refine zb ?_; intro _ _) | (refine za ?_; intro _ _) | (refine zs ?_; intro _ _))
    refine TQ_ret1 Tryz.results46 (RV.tmp rfl) (fun w' hs => ⟨?_, hs.below⟩)
    have : n ≤ hi ↔ In n lo hi := by unfold In; omega
    rw [decide_eq_decide.2 this]
  · repeat' (first | refine rn ?_ | (refine zb ?_; intro _ _) | (refine za ?_; intro _ _) | (refine zs ?_; intro _ _))
    exact TQ_ret1 Tryz.results46 (RV.tmp rfl) (fun w' hs => RetV.no (fun h => g1 h.1) hs.below)
theorem c90 (n lo hi : Int) (w : World) : Calls Tryz.prog 90 #[.int .i64 n, .int .i64 lo, .int .i64 hi] w (RetV w (.bool (decide (In n lo hi)))) := by
  refine enter (args := [.int .i64 n, .int .i64 lo, .int .i64 hi]) Tryz.func90 rfl Tryz.ntmps90 rfl (SH.refl _) ?_
  repeat' (first | refine rn ?_ | (refine zb ?_; intro _ _) | (refine za ?_; intro _ _) | (refine zs ?_; intro _ _))
  refine TL_gsplit_dec rfl rfl (fun g1 => ?_) (fun g1 => ?_)
  · repeat' (first | refine rn ?_ | (refine zb ?_; intro _ _) | (refine za ?_; intro _ _) | (refine zs ?_; intro _ _))
    refine TQ_ret1 Tryz.results90 (RV.tmp rfl) (fun w' hs => ⟨?_, hs.below⟩)
    have : n ≤ hi ↔ In n lo hi := by unfold In; omega
    rw [decide_eq_decide.2 this]
  · repeat' (first | refine rn ?_ | (refine zb ?_; intro _ _) | (refine za ?_; intro _ _) | (refine zs ?_; intro _ _))
    exact TQ_ret1 Tryz.results90 (RV.tmp rfl) (fun w' hs => RetV.no (fun h => g1 h.1) hs.below)
theorem c47 (s : Sp) (lo hi : Int) (w : World) : Calls Tryz.prog 47 #[.agg (encSp s).toArray, .int .i64 lo, .int .i64 hi] w (RetV w (.bool (decide (Ord s lo hi)))) := by
  refine enter (args := [.agg (encSp s).toArray, .int .i64 lo, .int .i64 hi]) Tryz.func47 rfl Tryz.ntmps47 rfl (SH.refl _) ?_
  repeat' (first | refine rn ?_ | (refine zb ?_; intro _ _) | (refine za ?_; intro _ _) | (refine zs ?_; intro _ _))
  refine TL_callV rfl rfl rfl (fun w h => c90 s.1 lo s.2 w) ?_
  repeat' (first | refine rn ?_ | (refine zb ?_; intro _ _) | (refine za ?_; intro _ _) | (refine zs ?_; intro _ _))
  refine TL_gsplit_dec rfl rfl (fun g1 => ?_) (fun g1 => ?_)
  · repeat' (first | refine rn ?_ | (refine zb ?_; intro _ _) | (refine za ?_; intro _ _) | (refine zs ?_; intro _ _))
    refine TQ_ret1 Tryz.results47 (RV.tmp rfl) (fun w' hs => ⟨?_, hs.below⟩)
    have : s.2 ≤ hi ↔ Ord s lo hi := by unfold In at g1; unfold Ord; omega
    rw [decide_eq_decide.2 this]
  · repeat' (first | refine rn ?_ | (refine zb ?_; intro _ _) | (refine za ?_; intro _ _) | (refine zs ?_; intro _ _))
    exact TQ_ret1 Tryz.results47 (RV.tmp rfl) (fun w' hs => RetV.no (fun h => g1 ⟨h.1, h.2.1⟩) hs.below)
def greatT (n : Nt) : Prop := 24 < n.canals.length ∨ 18 < n.fields.length
instance (n : Nt) : Decidable (greatT n) := inferInstanceAs (Decidable (_ ∨ _))
theorem c15 (n : Nt) (w : World) : Calls Tryz.prog 15 #[.agg (encNt n).toArray, .slice none 0 0] w (RetV w (.bool (decide (greatT n)))) := by
  refine enter (args := [.agg (encNt n).toArray, .slice none 0 0]) Tryz.func15 rfl Tryz.ntmps15 rfl (SH.refl _) ?_
  repeat' (first | refine rn ?_ | (refine zb ?_; intro _ _) | (refine za ?_; intro _ _) | (refine zs ?_; intro _ _))
  refine TL_gsplit_dec rfl rfl (fun g1 => ?_) (fun g1 => ?_)
  · repeat' (first | refine rn ?_ | (refine zb ?_; intro _ _) | (refine za ?_; intro _ _) | (refine zs ?_; intro _ _))
    exact TQ_ret1 Tryz.results15 (RV.tmp rfl) (fun w' hs => RetV.yes (.inl (by omega)) hs.below)
  · repeat' (first | refine rn ?_ | (refine zb ?_; intro _ _) | (refine za ?_; intro _ _) | (refine zs ?_; intro _ _))
    refine TL_gsplit_dec rfl rfl (fun g2 => ?_) (fun g2 => ?_)
    · repeat' (first | refine rn ?_ | (refine zb ?_; intro _ _) | (refine za ?_; intro _ _) | (refine zs ?_; intro _ _))
      exact TQ_ret1 Tryz.results15 (RV.tmp rfl) (fun w' hs => RetV.yes (.inr (by omega)) hs.below)
    · repeat' (first | refine rn ?_ | (refine zb ?_; intro _ _) | (refine za ?_; intro _ _) | (refine zs ?_; intro _ _))
      exact TQ_ret1 Tryz.results15 (RV.tmp rfl) (fun w' hs => RetV.no (fun h => by unfold greatT at h; omega) hs.below)
theorem c16 (n : Nt) (hg : ¬ greatT n) (w : World) (hnc : Sl w 5 encCn n.cao n.canals) (hnf : Sl w 1 encI n.fao n.fields) : Calls Tryz.prog 16 #[.agg (encNt n).toArray] w (RetP w.heap.size w (fun e : Int => .int .i64 e) (fun _ => []) (fun e => e = 0 → OkNt n)) := by
  have hg1 : n.canals.length ≤ 24 := by unfold greatT at hg; omega
  have hg2 : n.fields.length ≤ 18 := by unfold greatT at hg; omega
  have bad : ∀ w' H, SH w.heap.size w w' H → RetP w.heap.size w (fun e : Int => .int .i64 e) (fun _ => []) (fun e => e = 0 → OkNt n) (.returned (.int .i64 50)) w' := fun w' H hs => ⟨50, fun h => absurd h (by decide), rfl, hs.sub (List.nil_sublist _)⟩
  refine enter (args := [.agg (encNt n).toArray]) Tryz.func16 rfl Tryz.ntmps16 rfl (SH.refl _) ?_
  repeat' (first | refine rn ?_ | (refine zb ?_; intro _ _) | (refine za ?_; intro _ _) | (refine zs ?_; intro _ _))
  rename_i b1 _
  refine TL_gsplit_dec rfl rfl (fun g1 => ?_) (fun g1 => ?_)
  · repeat' (first | refine rn ?_ | (refine zb ?_; intro _ _) | (refine za ?_; intro _ _) | (refine zs ?_; intro _ _))
    exact TQ_ret1 Tryz.results16 (RV.tmp rfl) (fun w' hs => bad w' _ hs)
  repeat' (first | refine rn ?_ | (refine zb ?_; intro _ _) | (refine za ?_; intro _ _) | (refine zs ?_; intro _ _))
  refine TL_gsplit_dec rfl rfl (fun g2 => ?_) (fun g2 => ?_)
  · repeat' (first | refine rn ?_ | (refine zb ?_; intro _ _) | (refine za ?_; intro _ _) | (refine zs ?_; intro _ _))
    exact TQ_ret1 Tryz.results16 (RV.tmp rfl) (fun w' hs => bad w' _ hs)
  repeat' (first | refine rn ?_ | (refine zb ?_; intro _ _) | (refine za ?_; intro _ _) | (refine zs ?_; intro _ _))
  refine TL_callV rfl rfl rfl (fun w h => c46 n.dry 0 23040 w) ?_
  repeat' (first | refine rn ?_ | (refine zb ?_; intro _ _) | (refine za ?_; intro _ _) | (refine zs ?_; intro _ _))
  refine TL_gsplit_dec rfl rfl (fun g3 => ?_) (fun g3 => ?_)
  · repeat' (first | refine rn ?_ | (refine zb ?_; intro _ _) | (refine za ?_; intro _ _) | (refine zs ?_; intro _ _))
    exact TQ_ret1 Tryz.results16 (RV.tmp rfl) (fun w' hs => bad w' _ hs)
  have g3' := Classical.not_not.1 g3
  repeat' (first | refine rn ?_ | (refine zb ?_; intro _ _) | (refine za ?_; intro _ _) | (refine zs ?_; intro _ _))
  refine TL_callV rfl rfl rfl (fun w h => c46 n.days 1 16 w) ?_
  repeat' (first | refine rn ?_ | (refine zb ?_; intro _ _) | (refine za ?_; intro _ _) | (refine zs ?_; intro _ _))
  refine TC_cond_dec rfl (fun g4 => ?_) (fun g4 => ?_)
  · repeat' (first | refine rn ?_ | (refine zb ?_; intro _ _) | (refine za ?_; intro _ _) | (refine zs ?_; intro _ _))
    exact TQ_ret1 Tryz.results16 (RV.tmp rfl) (fun w' hs => bad w' _ hs)
  have g4' := Classical.not_not.1 g4
  repeat' (first | refine rn ?_ | (refine zb ?_; intro _ _) | (refine za ?_; intro _ _) | (refine zs ?_; intro _ _))
  refine TC_loop (σ := Nat) (fun k => k ≤ n.canals.length ∧ ∀ (i : Nat) c, i < k → n.canals[i]? = some c → In c.fr 0 i ∧ Ord c.seep 0 1000 ∧ Ord c.fill 0 10000000) (fun k => [(1, .pointer (some ⟨b1, 0, none⟩)), (3, .int .i64 k)]) (fun k => [(b1, .cells (encNt n) 57)]) (fun k => n.canals.length - k) 0 ⟨Nat.zero_le _, fun i c h => by omega⟩ sb (fun w h => h.sub su) (fun k hk => ?_)
  obtain ⟨hk, hcan⟩ := hk
  repeat' (first | refine rn ?_ | (refine zb ?_; intro _ _) | (refine za ?_; intro _ _) | (refine zs ?_; intro _ _))
  refine TC_cond_dec rfl (fun g5 => ?_) (fun g5 => ?_)
  · have hlt : k < n.canals.length := by omega
    obtain ⟨c, hc⟩ : ∃ x, n.canals[k]? = some x := ⟨_, List.getElem?_eq_getElem hlt⟩
    repeat' (first | refine rn ?_ | (refine zb ?_; intro _ _) | (refine za ?_; intro _ _) | (refine zs ?_; intro _ _))
    refine TL_index k rfl rfl rfl (fun w h => h.sl hnc) rfl hlt (Nat.le_refl _) ?_
    refine TL_load_eln (u := c) rfl rfl (fun w h => h.sl hnc) hc rfl ?_
    repeat' (first | refine rn ?_ | (refine zb ?_; intro _ _) | (refine za ?_; intro _ _) | (refine zs ?_; intro _ _))
    refine TL_callV rfl rfl rfl (fun w h => c46 c.fr 0 k w) ?_
    repeat' (first | refine rn ?_ | (refine zb ?_; intro _ _) | (refine za ?_; intro _ _) | (refine zs ?_; intro _ _))
    refine TL_gsplit_dec rfl rfl (fun q1 => ?_) (fun q1 => ?_)
    · repeat' (first | refine rn ?_ | (refine zb ?_; intro _ _) | (refine za ?_; intro _ _) | (refine zs ?_; intro _ _))
      exact TQ_ret1 Tryz.results16 (RV.tmp rfl) (fun w' hs => bad w' _ hs)
    repeat' (first | refine rn ?_ | (refine zb ?_; intro _ _) | (refine za ?_; intro _ _) | (refine zs ?_; intro _ _))
    refine TL_callV rfl rfl rfl (fun w h => c47 c.seep 0 1000 w) ?_
    repeat' (first | refine rn ?_ | (refine zb ?_; intro _ _) | (refine za ?_; intro _ _) | (refine zs ?_; intro _ _))
    refine TL_gsplit_dec rfl rfl (fun q2 => ?_) (fun q2 => ?_)
    · repeat' (first | refine rn ?_ | (refine zb ?_; intro _ _) | (refine za ?_; intro _ _) | (refine zs ?_; intro _ _))
      exact TQ_ret1 Tryz.results16 (RV.tmp rfl) (fun w' hs => bad w' _ hs)
    repeat' (first | refine rn ?_ | (refine zb ?_; intro _ _) | (refine za ?_; intro _ _) | (refine zs ?_; intro _ _))
    refine TL_callV rfl rfl rfl (fun w h => c47 c.fill 0 10000000 w) ?_
    repeat' (first | refine rn ?_ | (refine zb ?_; intro _ _) | (refine za ?_; intro _ _) | (refine zs ?_; intro _ _))
    refine TC_cond_dec rfl (fun q3 => ?_) (fun q3 => ?_)
    · repeat' (first | refine rn ?_ | (refine zb ?_; intro _ _) | (refine za ?_; intro _ _) | (refine zs ?_; intro _ _))
      exact TQ_ret1 Tryz.results16 (RV.tmp rfl) (fun w' hs => bad w' _ hs)
    repeat' (first | refine rn ?_ | (refine zb ?_; intro _ _) | (refine za ?_; intro _ _) | (refine zs ?_; intro _ _))
    refine TQ_round (k + 1) ⟨by omega, fun i y hi hy => ?_⟩ (by omega) sb (fun w h => h.sub su)
    rcases Nat.lt_or_ge i k with h | h
    · exact hcan i y h hy
    · have : i = k := by omega
      subst this; rw [hc] at hy; cases hy
      exact ⟨Classical.not_not.1 q1, Classical.not_not.1 q2, Classical.not_not.1 q3⟩
  have hkl : k = n.canals.length := by omega
  subst hkl
  repeat' (first | refine rn ?_ | (refine zb ?_; intro _ _) | (refine za ?_; intro _ _) | (refine zs ?_; intro _ _))
  refine TC_loop (σ := Nat) (fun k => k ≤ n.fields.length ∧ (∀ (i : Nat) x, i < k → n.fields[i]? = some x → In x 0 n.canals.length) ∧ ∀ (i j : Nat) x y, i < j → j < k → n.fields[i]? = some x → n.fields[j]? = some y → x ≠ y) (fun k => [(1, .pointer (some ⟨b1, 0, none⟩)), (5, .int .i64 k)]) (fun k => [(b1, .cells (encNt n) 57)]) (fun k => n.fields.length - k) 0 ⟨Nat.zero_le _, fun i c h => by omega, fun i j x y _ h => by omega⟩ sb (fun w h => h.sub su) (fun k hk => ?_)
  obtain ⟨hk, hfld, hnd⟩ := hk
  repeat' (first | refine rn ?_ | (refine zb ?_; intro _ _) | (refine za ?_; intro _ _) | (refine zs ?_; intro _ _))
  refine TC_cond_dec rfl (fun g6 => ?_) (fun g6 => ?_)
  · have hlt : k < n.fields.length := by omega
    obtain ⟨x, hx⟩ : ∃ x, n.fields[k]? = some x := ⟨_, List.getElem?_eq_getElem hlt⟩
    repeat' (first | refine rn ?_ | (refine zb ?_; intro _ _) | (refine za ?_; intro _ _) | (refine zs ?_; intro _ _))
    apply TC_draw 10; kernel_rfl; exact Tryz.mixed
    · iterate 3 (refine' pv ?_; rotate_left)
      (refine' PG.val rfl rfl (by intro _X; refine TL_index k rfl rfl rfl (fun w h => h.sl hnf) rfl hlt (Nat.le_refl _) ?_; exact qe) ?_; rotate_left)
      (refine' PG.val rfl rfl (by intro _X; refine TL_load_el1 (u := x) rfl rfl (fun w h => h.sl hnf) hx rfl ?_; exact qe) ?_; rotate_left)
      iterate 3 (refine' pv ?_; rotate_left)
      (refine' PG.val rfl rfl (by intro _X; refine TL_callV rfl rfl rfl (fun w h => c46 x 0 n.canals.length w) ?_; exact qe) ?_; rotate_left)
      (refine' pv ?_; rotate_left)
      exact PG.nil
    change TL _ _ _ _ _ _ _ _ _ _ _
    repeat' (first | refine rn ?_ | (refine zb ?_; intro _ _) | (refine za ?_; intro _ _) | (refine zs ?_; intro _ _))
    refine TC_cond_dec rfl (fun q1 => ?_) (fun q1 => ?_)
    · repeat' (first | refine rn ?_ | (refine zb ?_; intro _ _) | (refine za ?_; intro _ _) | (refine zs ?_; intro _ _))
      exact TQ_ret1 Tryz.results16 (RV.tmp rfl) (fun w' hs => bad w' _ hs)
    repeat' (first | refine rn ?_ | (refine zb ?_; intro _ _) | (refine za ?_; intro _ _) | (refine zs ?_; intro _ _))
    refine TC_loop (σ := Nat) (fun j => j ≤ k ∧ ∀ (i : Nat) y, i < j → n.fields[i]? = some y → y ≠ x) (fun j => [(1, .pointer (some ⟨b1, 0, none⟩)), (5, .int .i64 k), (6, .int .i64 j)]) (fun k => [(b1, .cells (encNt n) 57)]) (fun j => k - j) 0 ⟨Nat.zero_le _, fun i y h => by omega⟩ sb (fun w h => h.sub su) (fun j hj => ?_)
    obtain ⟨hj, hne⟩ := hj
    repeat' (first | refine rn ?_ | (refine zb ?_; intro _ _) | (refine za ?_; intro _ _) | (refine zs ?_; intro _ _))
    refine TC_cond_dec rfl (fun q2 => ?_) (fun q2 => ?_)
    · have hjl : j < n.fields.length := by omega
      obtain ⟨y, hy⟩ : ∃ x, n.fields[j]? = some x := ⟨_, List.getElem?_eq_getElem hjl⟩
      repeat' (first | refine rn ?_ | (refine zb ?_; intro _ _) | (refine za ?_; intro _ _) | (refine zs ?_; intro _ _))
      apply TC_draw 10; kernel_rfl; exact Tryz.mixed
      · iterate 3 (refine' pv ?_; rotate_left)
        (refine' PG.val rfl rfl (by intro _X; refine TL_index j rfl rfl rfl (fun w h => h.sl hnf) rfl hjl (Nat.le_refl _) ?_; exact qe) ?_; rotate_left)
        (refine' PG.val rfl rfl (by intro _X; refine TL_load_el1 (u := y) rfl rfl (fun w h => h.sl hnf) hy rfl ?_; exact qe) ?_; rotate_left)
        iterate 3 (refine' pv ?_; rotate_left)
        (refine' PG.val rfl rfl (by intro _X; refine TL_index k rfl rfl rfl (fun w h => h.sl hnf) rfl hlt (Nat.le_refl _) ?_; exact qe) ?_; rotate_left)
        (refine' PG.val rfl rfl (by intro _X; refine TL_load_el1 (u := x) rfl rfl (fun w h => h.sl hnf) hx rfl ?_; exact qe) ?_; rotate_left)
        exact PG.nil
      change TL _ _ _ _ _ _ _ _ _ _ _
      repeat' (first | refine rn ?_ | (refine zb ?_; intro _ _) | (refine za ?_; intro _ _) | (refine zs ?_; intro _ _))
      refine TC_cond_dec rfl (fun q3 => ?_) (fun q3 => ?_)
      · repeat' (first | refine rn ?_ | (refine zb ?_; intro _ _) | (refine za ?_; intro _ _) | (refine zs ?_; intro _ _))
        exact TQ_ret1 Tryz.results16 (RV.tmp rfl) (fun w' hs => bad w' _ hs)
      repeat' (first | refine rn ?_ | (refine zb ?_; intro _ _) | (refine za ?_; intro _ _) | (refine zs ?_; intro _ _))
      refine TQ_round (j + 1) ⟨by omega, fun i z hi hz => ?_⟩ (by omega) sb (fun w h => h.sub su)
      rcases Nat.lt_or_ge i j with h | h
      · exact hne i z h hz
      · have : i = j := by omega
        subst this; rw [hy] at hz; cases hz; exact q3
    have hjk : j = k := by omega
    subst hjk
    repeat' (first | refine rn ?_ | (refine zb ?_; intro _ _) | (refine za ?_; intro _ _) | (refine zs ?_; intro _ _))
    refine TQ_round (j + 1) ⟨by omega, fun i z hi hz => ?_, fun i l a b hil hl ha hb => ?_⟩ (by omega) sb (fun w h => h.sub su)
    · rcases Nat.lt_or_ge i j with h | h
      · exact hfld i z h hz
      · have : i = j := by omega
        subst this; rw [hx] at hz; cases hz; exact Classical.not_not.1 q1
    · rcases Nat.lt_or_ge l j with h | h
      · exact hnd i l a b hil h ha hb
      · have : l = j := by omega
        subst this; rw [hx] at hb; cases hb; exact hne i a hil ha
  have hkl : k = n.fields.length := by omega
  subst hkl
  repeat' (first | refine rn ?_ | (refine zb ?_; intro _ _) | (refine za ?_; intro _ _) | (refine zs ?_; intro _ _))
  refine TQ_ret1 Tryz.results16 (RV.tmp rfl) (fun w' hs => ⟨0, fun _ => ?_, rfl, hs.sub (List.nil_sublist _)⟩)
  refine ⟨by omega, by omega, g3', g4', fun i c hc => hcan i c (List.getElem?_eq_some_iff.1 hc).1 hc, fun x hx => ?_, ?_⟩
  · obtain ⟨i, hi⟩ := List.getElem?_of_mem hx
    exact hfld i x (List.getElem?_eq_some_iff.1 hi).1 hi
  · exact List.pairwise_iff_getElem.2 (fun i j hi hj hij => hnd i j _ _ hij hj (List.getElem?_eq_getElem hi) (List.getElem?_eq_getElem hj))
end Go.Proofs.YtkpkebpofpcmaaaGreatDoor
