/- Walks of the references of chapters 3 and 5: clocks and nets that are valid, spans that are the same. -/
import Derived.Test.YtkpkebpofpcmaaaGreatDoorC1
namespace Go.Proofs.YtkpkebpofpcmaaaGreatDoor
open Go Go.Eng Go.RowKit Go.Proofs
set_option maxHeartbeats 4000000
set_option maxRecDepth 10000
attribute [local irreducible] TL TC TQ

theorem c46 (n lo hi : Int) (w : World) : Calls Tryz.prog 46 #[.int .i64 n, .int .i64 lo, .int .i64 hi] w (RetV w (.bool (decide (In n lo hi)))) := by
  refine enter (args := [.int .i64 n, .int .i64 lo, .int .i64 hi]) Tryz.func46 rfl Tryz.ntmps46 rfl (SH.refl _) ?_
  repeat' (first | refine rn ?_ | (refine zb ?_; intro _ _) | (refine za ?_; intro _ _) | (refine zs ?_; intro _ _))
  refine TL_gsplit_dec rfl rfl (fun g1 => ?_) (fun g1 => ?_)
  · repeat' (first | refine rn ?_ | (refine zb ?_; intro _ _) | (refine za ?_; intro _ _) | (refine zs ?_; intro _ _))
    refine TQ_ret1 Tryz.results46 (RV.tmp rfl) (fun w' hs => ⟨?_, hs.below⟩)
    have : n ≤ hi ↔ In n lo hi := by unfold In; omega
    rw [decide_eq_decide.2 this]
  · repeat' (first | refine rn ?_ | (refine zb ?_; intro _ _) | (refine za ?_; intro _ _) | (refine zs ?_; intro _ _))
    exact TQ_ret1 Tryz.results46 (RV.tmp rfl) (fun w' hs => RetV.no (fun h => g1 h.1) hs.below)
theorem c90 (n lo hi : Int) (w : World) : Calls Tryz.prog 90 #[.int .i64 n, .int .i64 lo, .int .i64 hi] w (RetV w (.bool (decide (In n lo hi)))) := by
  refine enter (args := [.int .i64 n, .int .i64 lo, .int .i64 hi]) Tryz.func90 rfl Tryz.ntmps90 rfl (SH.refl _) ?_
  repeat' (first | refine rn ?_ | (refine zb ?_; intro _ _) | (refine za ?_; intro _ _) | (refine zs ?_; intro _ _))
  refine TL_gsplit_dec rfl rfl (fun g1 => ?_) (fun g1 => ?_)
  · repeat' (first | refine rn ?_ | (refine zb ?_; intro _ _) | (refine za ?_; intro _ _) | (refine zs ?_; intro _ _))
    refine TQ_ret1 Tryz.results90 (RV.tmp rfl) (fun w' hs => ⟨?_, hs.below⟩)
    have : n ≤ hi ↔ In n lo hi := by unfold In; omega
    rw [decide_eq_decide.2 this]
  · repeat' (first | refine rn ?_ | (refine zb ?_; intro _ _) | (refine za ?_; intro _ _) | (refine zs ?_; intro _ _))
    exact TQ_ret1 Tryz.results90 (RV.tmp rfl) (fun w' hs => RetV.no (fun h => g1 h.1) hs.below)
theorem c47 (s : Sp) (lo hi : Int) (w : World) : Calls Tryz.prog 47 #[.agg (encSp s).toArray, .int .i64 lo, .int .i64 hi] w (RetV w (.bool (decide (Ord s lo hi)))) := by
  refine enter (args := [.agg (encSp s).toArray, .int .i64 lo, .int .i64 hi]) Tryz.func47 rfl Tryz.ntmps47 rfl (SH.refl _) ?_
  repeat' (first | refine rn ?_ | (refine zb ?_; intro _ _) | (refine za ?_; intro _ _) | (refine zs ?_; intro _ _))
  refine TL_callV rfl rfl rfl (fun w h => c90 s.1 lo s.2 w) ?_
  repeat' (first | refine rn ?_ | (refine zb ?_; intro _ _) | (refine za ?_; intro _ _) | (refine zs ?_; intro _ _))
  refine TL_gsplit_dec rfl rfl (fun g1 => ?_) (fun g1 => ?_)
  · repeat' (first | refine rn ?_ | (refine zb ?_; intro _ _) | (refine za ?_; intro _ _) | (refine zs ?_; intro _ _))
    refine TQ_ret1 Tryz.results47 (RV.tmp rfl) (fun w' hs => ⟨?_, hs.below⟩)
    have : s.2 ≤ hi ↔ Ord s lo hi := by unfold In at g1; unfold Ord; omega
    rw [decide_eq_decide.2 this]
  · repeat' (first | refine rn ?_ | (refine zb ?_; intro _ _) | (refine za ?_; intro _ _) | (refine zs ?_; intro _ _))
    exact TQ_ret1 Tryz.results47 (RV.tmp rfl) (fun w' hs => RetV.no (fun h => g1 ⟨h.1, h.2.1⟩) hs.below)
def greatT (n : Nt) : Prop := 24 < n.canals.length ∨ 18 < n.fields.length
instance (n : Nt) : Decidable (greatT n) := inferInstanceAs (Decidable (_ ∨ _))
theorem c15 (n : Nt) (w : World) : Calls Tryz.prog 15 #[.agg (encNt n).toArray, .slice none 0 0] w (RetV w (.bool (decide (greatT n)))) := by
  refine enter (args := [.agg (encNt n).toArray, .slice none 0 0]) Tryz.func15 rfl Tryz.ntmps15 rfl (SH.refl _) ?_
  repeat' (first | refine rn ?_ | (refine zb ?_; intro _ _) | (refine za ?_; intro _ _) | (refine zs ?_; intro _ _))
  refine TL_gsplit_dec rfl rfl (fun g1 => ?_) (fun g1 => ?_)
  · repeat' (first | refine rn ?_ | (refine zb ?_; intro _ _) | (refine za ?_; intro _ _) | (refine zs ?_; intro _ _))
    exact TQ_ret1 Tryz.results15 (RV.tmp rfl) (fun w' hs => RetV.yes (.inl (by omega)) hs.below)
  · repeat' (first | refine rn ?_ | (refine zb ?_; intro _ _) | (refine za ?_; intro _ _) | (refine zs ?_; intro _ _))
    refine TL_gsplit_dec rfl rfl (fun g2 => ?_) (fun g2 => ?_)
    · repeat' (first | refine rn ?_ | (refine zb ?_; intro _ _) | (refine za ?_; intro _ _) | (refine zs ?_; intro _ _))
      exact TQ_ret1 Tryz.results15 (RV.tmp rfl) (fun w' hs => RetV.yes (.inr (by omega)) hs.below)
    · repeat' (first | refine rn ?_ | (refine zb ?_; intro _ _) | (refine za ?_; intro _ _) | (refine zs ?_; intro _ _))
      exact TQ_ret1 Tryz.results15 (RV.tmp rfl) (fun w' hs => RetV.no (fun h => by unfold greatT at h; omega) hs.below)
theorem c16 (n : Nt) (hg : ¬ greatT n) (w : World) (hnc : Sl w 5 encCn n.cao n.canals) (hnf : Sl w 1 encI n.fao n.fields) : Calls Tryz.prog 16 #[.agg (encNt n).toArray] w (RetP w.heap.size w (fun e : Int => .int .i64 e) (fun _ => []) (fun e => e = 0 → OkNt n)) := by
  have hg1 : n.canals.length ≤ 24 := by unfold greatT at hg; omega
  have hg2 : n.fields.length ≤ 18 := by unfold greatT at hg; omega
  have bad : ∀ w' H, SH w.heap.size w w' H → RetP w.heap.size w (fun e : Int => .int .i64 e) (fun _ => []) (fun e => e = 0 → OkNt n) (.returned (.int .i64 50)) w' := fun w' H hs => ⟨50, fun h => absurd h (by decide), rfl, hs.sub (List.nil_sublist _)⟩
  refine enter (args := [.agg (encNt n).toArray]) Tryz.func16 rfl Tryz.ntmps16 rfl (SH.refl _) ?_
  repeat' (first | refine rn ?_ | (refine zb ?_; intro _ _) | (refine za ?_; intro _ _) | (refine zs ?_; intro _ _))
  rename_i b1 _
  refine TL_gsplit_dec rfl rfl (fun g1 => ?_) (fun g1 => ?_)
  · repeat' (first | refine rn ?_ | (refine zb ?_; intro _ _) | (refine za ?_; intro _ _) | (refine zs ?_; intro _ _))
    exact TQ_ret1 Tryz.results16 (RV.tmp rfl) (fun w' hs => bad w' _ hs)
  repeat' (first | refine rn ?_ | (refine zb ?_; intro _ _) | (refine za ?_; intro _ _) | (refine zs ?_; intro _ _))
  refine TL_gsplit_dec rfl rfl (fun g2 => ?_) (fun g2 => ?_)
  · repeat' (first | refine rn ?_ | (refine zb ?_; intro _ _) | (refine za ?_; intro _ _) | (refine zs ?_; intro _ _))
    exact TQ_ret1 Tryz.results16 (RV.tmp rfl) (fun w' hs => bad w' _ hs)
  repeat' (first | refine rn ?_ | (refine zb ?_; intro _ _) | (refine za ?_; intro _ _) | (refine zs ?_; intro _ _))
  refine TL_callV rfl rfl rfl (fun w h => c46 n.dry 0 23040 w) ?_
  repeat' (first | refine rn ?_ | (refine zb ?_; intro _ _) | (refine za ?_; intro _ _) | (refine zs ?_; intro _ _))
  refine TL_gsplit_dec rfl rfl (fun g3 => ?_) (fun g3 => ?_)
  · repeat' (first | refine rn ?_ | (refine zb ?_; intro _ _) | (refine za ?_; intro _ _) | (refine zs ?_; intro _ _))
    exact TQ_ret1 Tryz.results16 (RV.tmp rfl) (fun w' hs => bad w' _ hs)
  have g3' := Classical.not_not.1 g3
  repeat' (first | refine rn ?_ | (refine zb ?_; intro _ _) | (refine za ?_; intro _ _) | (refine zs ?_; intro _ _))
  refine TL_callV rfl rfl rfl (fun w h => c46 n.days 1 16 w) ?_
  repeat' (first | refine rn ?_ | (refine zb ?_; intro _ _) | (refine za ?_; intro _ _) | (refine zs ?_; intro _ _))
  refine TC_cond_dec rfl (fun g4 => ?_) (fun g4 => ?_)
  · repeat' (first | refine rn ?_ | (refine zb ?_; intro _ _) | (refine za ?_; intro _ _) | (refine zs ?_; intro _ _))
    exact TQ_ret1 Tryz.results16 (RV.tmp rfl) (fun w' hs => bad w' _ hs)
  have g4' := Classical.not_not.1 g4
  repeat' (first | refine rn ?_ | (refine zb ?_; intro _ _) | (refine za ?_; intro _ _) | (refine zs ?_; intro _ _))
  refine TC_loop (σ := Nat) (fun k => k ≤ n.canals.length ∧ ∀ (i : Nat) c, i < k → n.canals[i]? = some c → In c.fr 0 i ∧ Ord c.seep 0 1000 ∧ Ord c.fill 0 10000000) (fun k => [(1, .pointer (some ⟨b1, 0, none⟩)), (3, .int .i64 k)]) (fun k => [(b1, .cells (encNt n) 57)]) (fun k => n.canals.length - k) 0 ⟨Nat.zero_le _, fun i c h => by omega⟩ sb (fun w h => h.sub su) (fun k hk => ?_)
  obtain ⟨hk, hcan⟩ := hk
  repeat' (first | refine rn ?_ | (refine zb ?_; intro _ _) | (refine za ?_; intro _ _) | (refine zs ?_; intro _ _))
  refine TC_cond_dec rfl (fun g5 => ?_) (fun g5 => ?_)
  · have hlt : k < n.canals.length := by omega
    obtain ⟨c, hc⟩ : ∃ x, n.canals[k]? = some x := ⟨_, List.getElem?_eq_getElem hlt⟩
    repeat' (first | refine rn ?_ | (refine zb ?_; intro _ _) | (refine za ?_; intro _ _) | (refine zs ?_; intro _ _))
    refine TL_index k rfl rfl rfl (fun w h => h.sl hnc) rfl hlt (Nat.le_refl _) ?_
    refine TL_load_eln (u := c) rfl rfl (fun w h => h.sl hnc) hc rfl ?_
    repeat' (first | refine rn ?_ | (refine zb ?_; intro _ _) | (refine za ?_; intro _ _) | (refine zs ?_; intro _ _))
    refine TL_callV rfl rfl rfl (fun w h => c46 c.fr 0 k w) ?_
    repeat' (first | refine rn ?_ | (refine zb ?_; intro _ _) | (refine za ?_; intro _ _) | (refine zs ?_; intro _ _))
    refine TL_gsplit_dec rfl rfl (fun q1 => ?_) (fun q1 => ?_)
    · repeat' (first | refine rn ?_ | (refine zb ?_; intro _ _) | (refine za ?_; intro _ _) | (refine zs ?_; intro _ _))
      exact TQ_ret1 Tryz.results16 (RV.tmp rfl) (fun w' hs => bad w' _ hs)
    repeat' (first | refine rn ?_ | (refine zb ?_; intro _ _) | (refine za ?_; intro _ _) | (refine zs ?_; intro _ _))
    refine TL_callV rfl rfl rfl (fun w h => c47 c.seep 0 1000 w) ?_
    repeat' (first | refine rn ?_ | (refine zb ?_; intro _ _) | (refine za ?_; intro _ _) | (refine zs ?_; intro _ _))
    refine TL_gsplit_dec rfl rfl (fun q2 => ?_) (fun q2 => ?_)
    · repeat' (first | refine rn ?_ | (refine zb ?_; intro _ _) | (refine za ?_; intro _ _) | (refine zs ?_; intro _ _))
      exact TQ_ret1 Tryz.results16 (RV.tmp rfl) (fun w' hs => bad w' _ hs)
    repeat' (first | refine rn ?_ | (refine zb ?_; intro _ _) | (refine za ?_; intro _ _) | (refine zs ?_; intro _ _))
    refine TL_callV rfl rfl rfl (fun w h => c47 c.fill 0 10000000 w) ?_
    repeat' (first | refine rn ?_ | (refine zb ?_; intro _ _) | (refine za ?_; intro _ _) | (refine zs ?_; intro _ _))
    refine TC_cond_dec rfl (fun q3 => ?_) (fun q3 => ?_)
    · repeat' (first | refine rn ?_ | (refine zb ?_; intro _ _) | (refine za ?_; intro _ _) | (refine zs ?_; intro _ _))
      exact TQ_ret1 Tryz.results16 (RV.tmp rfl) (fun w' hs => bad w' _ hs)
    repeat' (first | refine rn ?_ | (refine zb ?_; intro _ _) | (refine za ?_; intro _ _) | (refine zs ?_; intro _ _))
    refine TQ_round (k + 1) ⟨by omega, fun i y hi hy => ?_⟩ (by omega) sb (fun w h => h.sub su)
    rcases Nat.lt_or_ge i k with h | h
    · exact hcan i y h hy
    · have : i = k := by omega
      subst this; rw [hc] at hy; cases hy
      exact ⟨Classical.not_not.1 q1, Classical.not_not.1 q2, Classical.not_not.1 q3⟩
  have hkl : k = n.canals.length := by omega
  subst hkl
  repeat' (first | refine rn ?_ | (refine zb ?_; intro _ _) | (refine za ?_; intro _ _) | (refine zs ?_; intro _ _))
  refine TC_loop (σ := Nat) (fun k => k ≤ n.fields.length ∧ (∀ (i : Nat) x, i < k → n.fields[i]? = some x → In x 0 n.canals.length) ∧ ∀ (i j : Nat) x y, i < j → j < k → n.fields[i]? = some x → n.fields[j]? = some y → x ≠ y) (fun k => [(1, .pointer (some ⟨b1, 0, none⟩)), (5, .int .i64 k)]) (fun k => [(b1, .cells (encNt n) 57)]) (fun k => n.fields.length - k) 0 ⟨Nat.zero_le _, fun i c h => by omega, fun i j x y _ h => by omega⟩ sb (fun w h => h.sub su) (fun k hk => ?_)
  obtain ⟨hk, hfld, hnd⟩ := hk
  repeat' (first | refine rn ?_ | (refine zb ?_; intro _ _) | (refine za ?_; intro _ _) | (refine zs ?_; intro _ _))
  refine TC_cond_dec rfl (fun g6 => ?_) (fun g6 => ?_)
  · have hlt : k < n.fields.length := by omega
    obtain ⟨x, hx⟩ : ∃ x, n.fields[k]? = some x := ⟨_, List.getElem?_eq_getElem hlt⟩
    repeat' (first | refine rn ?_ | (refine zb ?_; intro _ _) | (refine za ?_; intro _ _) | (refine zs ?_; intro _ _))
    apply TC_draw 10; kernel_rfl; exact Tryz.mixed
    · iterate 3 (refine' pv ?_; rotate_left)
      (refine' PG.val rfl rfl (by intro _X; refine TL_index k rfl rfl rfl (fun w h => h.sl hnf) rfl hlt (Nat.le_refl _) ?_; exact qe) ?_; rotate_left)
      (refine' PG.val rfl rfl (by intro _X; refine TL_load_el1 (u := x) rfl rfl (fun w h => h.sl hnf) hx rfl ?_; exact qe) ?_; rotate_left)
      iterate 3 (refine' pv ?_; rotate_left)
      (refine' PG.val rfl rfl (by intro _X; refine TL_callV rfl rfl rfl (fun w h => c46 x 0 n.canals.length w) ?_; exact qe) ?_; rotate_left)
      (refine' pv ?_; rotate_left)
      exact PG.nil
    change TL _ _ _ _ _ _ _ _ _ _ _
    repeat' (first | refine rn ?_ | (refine zb ?_; intro _ _) | (refine za ?_; intro _ _) | (refine zs ?_; intro _ _))
    refine TC_cond_dec rfl (fun q1 => ?_) (fun q1 => ?_)
    · repeat' (first | refine rn ?_ | (refine zb ?_; intro _ _) | (refine za ?_; intro _ _) | (refine zs ?_; intro _ _))
      exact TQ_ret1 Tryz.results16 (RV.tmp rfl) (fun w' hs => bad w' _ hs)
    repeat' (first | refine rn ?_ | (refine zb ?_; intro _ _) | (refine za ?_; intro _ _) | (refine zs ?_; intro _ _))
    refine TC_loop (σ := Nat) (fun j => j ≤ k ∧ ∀ (i : Nat) y, i < j → n.fields[i]? = some y → y ≠ x) (fun j => [(1, .pointer (some ⟨b1, 0, none⟩)), (5, .int .i64 k), (6, .int .i64 j)]) (fun k => [(b1, .cells (encNt n) 57)]) (fun j => k - j) 0 ⟨Nat.zero_le _, fun i y h => by omega⟩ sb (fun w h => h.sub su) (fun j hj => ?_)
    obtain ⟨hj, hne⟩ := hj
    repeat' (first | refine rn ?_ | (refine zb ?_; intro _ _) | (refine za ?_; intro _ _) | (refine zs ?_; intro _ _))
    refine TC_cond_dec rfl (fun q2 => ?_) (fun q2 => ?_)
    · have hjl : j < n.fields.length := by omega
      obtain ⟨y, hy⟩ : ∃ x, n.fields[j]? = some x := ⟨_, List.getElem?_eq_getElem hjl⟩
      repeat' (first | refine rn ?_ | (refine zb ?_; intro _ _) | (refine za ?_; intro _ _) | (refine zs ?_; intro _ _))
      apply TC_draw 10; kernel_rfl; exact Tryz.mixed
      · iterate 3 (refine' pv ?_; rotate_left)
        (refine' PG.val rfl rfl (by intro _X; refine TL_index j rfl rfl rfl (fun w h => h.sl hnf) rfl hjl (Nat.le_refl _) ?_; exact qe) ?_; rotate_left)
        (refine' PG.val rfl rfl (by intro _X; refine TL_load_el1 (u := y) rfl rfl (fun w h => h.sl hnf) hy rfl ?_; exact qe) ?_; rotate_left)
        iterate 3 (refine' pv ?_; rotate_left)
        (refine' PG.val rfl rfl (by intro _X; refine TL_index k rfl rfl rfl (fun w h => h.sl hnf) rfl hlt (Nat.le_refl _) ?_; exact qe) ?_; rotate_left)
        (refine' PG.val rfl rfl (by intro _X; refine TL_load_el1 (u := x) rfl rfl (fun w h => h.sl hnf) hx rfl ?_; exact qe) ?_; rotate_left)
        exact PG.nil
      change TL _ _ _ _ _ _ _ _ _ _ _
      repeat' (first | refine rn ?_ | (refine zb ?_; intro _ _) | (refine za ?_; intro _ _) | (refine zs ?_; intro _ _))
      refine TC_cond_dec rfl (fun q3 => ?_) (fun q3 => ?_)
      · repeat' (first | refine rn ?_ | (refine zb ?_; intro _ _) | (refine za ?_; intro _ _) | (refine zs ?_; intro _ _))
        exact TQ_ret1 Tryz.results16 (RV.tmp rfl) (fun w' hs => bad w' _ hs)
      repeat' (first | refine rn ?_ | (refine zb ?_; intro _ _) | (refine za ?_; intro _ _) | (refine zs ?_; intro _ _))
      refine TQ_round (j + 1) ⟨by omega, fun i z hi hz => ?_⟩ (by omega) sb (fun w h => h.sub su)
      rcases Nat.lt_or_ge i j with h | h
      · exact hne i z h hz
      · have : i = j := by omega
        subst this; rw [hy] at hz; cases hz; exact q3
    have hjk : j = k := by omega
    subst hjk
    repeat' (first | refine rn ?_ | (refine zb ?_; intro _ _) | (refine za ?_; intro _ _) | (refine zs ?_; intro _ _))
    refine TQ_round (j + 1) ⟨by omega, fun i z hi hz => ?_, fun i l a b hil hl ha hb => ?_⟩ (by omega) sb (fun w h => h.sub su)
    · rcases Nat.lt_or_ge i j with h | h
      · exact hfld i z h hz
      · have : i = j := by omega
        subst this; rw [hx] at hz; cases hz; exact Classical.not_not.1 q1
    · rcases Nat.lt_or_ge l j with h | h
      · exact hnd i l a b hil h ha hb
      · have : l = j := by omega
        subst this; rw [hx] at hb; cases hb; exact hne i a hil ha
  have hkl : k = n.fields.length := by omega
  subst hkl
  repeat' (first | refine rn ?_ | (refine zb ?_; intro _ _) | (refine za ?_; intro _ _) | (refine zs ?_; intro _ _))
  refine TQ_ret1 Tryz.results16 (RV.tmp rfl) (fun w' hs => ⟨0, fun _ => ?_, rfl, hs.sub (List.nil_sublist _)⟩)
  refine ⟨by omega, by omega, g3', g4', fun i c hc => hcan i c (List.getElem?_eq_some_iff.1 hc).1 hc, fun x hx => ?_, ?_⟩
  · obtain ⟨i, hi⟩ := List.getElem?_of_mem hx
    exact hfld i x (List.getElem?_eq_some_iff.1 hi).1 hi
  · exact List.pairwise_iff_getElem.2 (fun i j hi hj hij => hnd i j _ _ hij hj (List.getElem?_eq_getElem hi) (List.getElem?_eq_getElem hj))
theorem c48 (k : Ck) (w : World) (hk : CkAt w k) : Calls Tryz.prog 48 #[.agg (encCk k).toArray] w (RetP w.heap.size w (fun b : Bool => .bool b) (fun _ => []) (fun b => b = true → OkCk k)) := by
  have bad : ∀ w' H, SH w.heap.size w w' H → RetP w.heap.size w (fun b : Bool => .bool b) (fun _ => []) (fun b => b = true → OkCk k) (.returned (.bool false)) w' := fun w' H hs => ⟨false, fun h => Bool.noConfusion h, rfl, hs.sub (List.nil_sublist _)⟩
  have hml := hk.ml
  have hsl := hk.sl
  unfold Small at hml hsl
  refine enter (args := [.agg (encCk k).toArray]) Tryz.func48 rfl Tryz.ntmps48 rfl (SH.refl _) ?_
  repeat' (first | refine rn ?_ | (refine zb ?_; intro _ _) | (refine za ?_; intro _ _) | (refine zs ?_; intro _ _))
  rename_i b1 _
  refine TL_gsplit_dec rfl rfl (fun g1 => ?_) (fun g1 => ?_)
  · repeat' (first | refine rn ?_ | (refine zb ?_; intro _ _) | (refine za ?_; intro _ _) | (refine zs ?_; intro _ _))
    exact TQ_ret1 Tryz.results48 (RV.tmp rfl) (fun w' hs => bad w' _ hs)
  repeat' (first | refine rn ?_ | (refine zb ?_; intro _ _) | (refine za ?_; intro _ _) | (refine zs ?_; intro _ _))
  refine TC_cond_dec rfl (fun g2 => ?_) (fun g2 => ?_)
  · repeat' (first | refine rn ?_ | (refine zb ?_; intro _ _) | (refine za ?_; intro _ _) | (refine zs ?_; intro _ _))
    exact TQ_ret1 Tryz.results48 (RV.tmp rfl) (fun w' hs => bad w' _ hs)
  repeat' (first | refine rn ?_ | (refine zb ?_; intro _ _) | (refine za ?_; intro _ _) | (refine zs ?_; intro _ _))
  refine TC_loop (σ := Nat) (fun i => i ≤ k.marks.length ∧ (∀ (j : Nat) a, j < i → k.marks[j]? = some a → Ord a (-100000) 100000) ∧ ∀ (j : Nat) a b, j + 1 < i → k.marks[j]? = some a → k.marks[j + 1]? = some b → a.1 ≤ b.1 ∧ a.2 ≤ b.2) (fun i => [(1, .pointer (some ⟨b1, 0, none⟩)), (3, .int .i64 i)]) (fun i => [(b1, .cells (encCk k) 27)]) (fun i => k.marks.length - i) 0 ⟨Nat.zero_le _, fun j a h => by omega, fun j a b h => by omega⟩ sb (fun w h => h.sub su) (fun i hi => ?_)
  obtain ⟨hi, hord, hsrt⟩ := hi
  repeat' (first | refine rn ?_ | (refine zb ?_; intro _ _) | (refine za ?_; intro _ _) | (refine zs ?_; intro _ _))
  refine TC_cond_dec rfl (fun g3 => ?_) (fun g3 => ?_)
  · have hlt : i < k.marks.length := by omega
    obtain ⟨x, hx⟩ : ∃ x, k.marks[i]? = some x := ⟨_, List.getElem?_eq_getElem hlt⟩
    have hne : k.marks ≠ [] := by intro h; rw [h] at hlt; simp at hlt
    have hord' : Ord x (-100000) 100000 → ∀ (j : Nat) a, j < i + 1 → k.marks[j]? = some a → Ord a (-100000) 100000 := fun ho j a hj ha => by
      rcases Nat.lt_or_ge j i with h | h
      · exact hord j a h ha
      · have : j = i := by omega
        subst this; rw [hx] at ha; cases ha; exact ho
    repeat' (first | refine rn ?_ | (refine zb ?_; intro _ _) | (refine za ?_; intro _ _) | (refine zs ?_; intro _ _))
    refine TL_index i rfl rfl rfl (fun w h => h.sl hk.m) rfl hlt (Nat.le_refl _) ?_
    refine TL_load_eln (u := x) rfl rfl (fun w h => h.sl hk.m) hx rfl ?_
    refine TL_callV rfl rfl rfl (fun w h => c91 x _ _ w) ?_
    repeat' (first | refine rn ?_ | (refine zb ?_; intro _ _) | (refine za ?_; intro _ _) | (refine zs ?_; intro _ _))
    refine TC_cond_dec rfl (fun g4 => ?_) (fun g4 => ?_)
    · repeat' (first | refine rn ?_ | (refine zb ?_; intro _ _) | (refine za ?_; intro _ _) | (refine zs ?_; intro _ _))
      exact TQ_ret1 Tryz.results48 (RV.tmp rfl) (fun w' hs => bad w' _ hs)
    have g4' := Classical.not_not.1 g4
    repeat' (first | refine rn ?_ | (refine zb ?_; intro _ _) | (refine za ?_; intro _ _) | (refine zs ?_; intro _ _))
    cases i with
    | zero =>
      apply TC_draw 33; kernel_rfl; exact Tryz.mixed
      · (refine' pv ?_; rotate_left)
        (refine' PG.val rfl rfl (by intro _X; refine TL_gtr_f rfl rfl rfl (by omega) ?_; exact qe) ?_; rotate_left)
        iterate 31 (refine' pv ?_; rotate_left)
        exact PG.nil
      change TL _ _ _ _ _ _ _ _ _ _ _
      repeat' (first | refine rn ?_ | (refine zb ?_; intro _ _) | (refine za ?_; intro _ _) | (refine zs ?_; intro _ _))
      exact TQ_round 1 ⟨by omega, hord' g4', fun j a b h => by omega⟩ (by omega) sb (fun w h => h.sub su)
    | succ m =>
      obtain ⟨y, hy⟩ : ∃ y, k.marks[m]? = some y := ⟨_, List.getElem?_eq_getElem (by omega)⟩
      by_cases q1 : x.1 < y.1
      · skip
        apply TC_draw 33; kernel_rfl; exact Tryz.mixed
        · (refine' pv ?_; rotate_left)
          (refine' PG.val rfl rfl (by intro _X; refine TL_gtr_t rfl rfl rfl (by omega) ?_; exact qe) ?_; rotate_left)
          (refine' pv ?_; rotate_left)
          iterate 3 (refine' pg ?_; rotate_left)
          (refine' PG.val rfl rfl (by intro _X; (refine TL_guard_yes rfl rfl rfl ?_); refine TL_index (m + 1) rfl rfl rfl (fun w h => h.sl hk.m) rfl hlt (Nat.le_refl _) ?_; exact qe) ?_; rotate_left)
          (refine' PG.val rfl rfl (by intro _X; (refine TL_guard_yes rfl rfl rfl ?_); refine TL_fieldAddr_el rfl rfl (fun w h => h.sl hk.m) hne ?_; exact qe) ?_; rotate_left)
          (refine' PG.val rfl rfl (by intro _X; (refine TL_guard_yes rfl rfl rfl ?_); refine TL_load_el1 (u := x) rfl rfl (fun w h => h.sl hk.m) hx rfl ?_; exact qe) ?_; rotate_left)
          iterate 4 (refine' pg ?_; rotate_left)
          (refine' PG.val rfl rfl (by intro _X; (refine TL_guard_yes rfl rfl rfl ?_); refine TL_index m rfl rfl rfl (fun w h => h.sl hk.m) (by omega) (by omega) (Nat.le_refl _) ?_; exact qe) ?_; rotate_left)
          (refine' PG.val rfl rfl (by intro _X; (refine TL_guard_yes rfl rfl rfl ?_); refine TL_fieldAddr_el rfl rfl (fun w h => h.sl hk.m) hne ?_; exact qe) ?_; rotate_left)
          (refine' PG.val rfl rfl (by intro _X; (refine TL_guard_yes rfl rfl rfl ?_); refine TL_load_el1 (u := y) rfl rfl (fun w h => h.sl hk.m) hy rfl ?_; exact qe) ?_; rotate_left)
          (refine' PG.val rfl rfl (by intro _X; (refine TL_guard_yes rfl rfl rfl ?_); refine TL_lss_t rfl rfl rfl q1 ?_; exact qe) ?_; rotate_left)
          (refine' pg ?_; rotate_left)
          iterate 14 (refine' pv ?_; rotate_left)
          (refine' pg ?_; rotate_left)
          exact PG.nil
        change TL _ _ _ _ _ _ _ _ _ _ _
        repeat' (first | refine rn ?_ | (refine zb ?_; intro _ _) | (refine za ?_; intro _ _) | (refine zs ?_; intro _ _))
        exact TQ_ret1 Tryz.results48 (RV.tmp rfl) (fun w' hs => bad w' _ hs)
      · by_cases q2 : x.2 < y.2
        · skip
          apply TC_draw 33; kernel_rfl; exact Tryz.mixed
          · (refine' pv ?_; rotate_left)
            (refine' PG.val rfl rfl (by intro _X; refine TL_gtr_t rfl rfl rfl (by omega) ?_; exact qe) ?_; rotate_left)
            (refine' pv ?_; rotate_left)
            iterate 3 (refine' pg ?_; rotate_left)
            (refine' PG.val rfl rfl (by intro _X; (refine TL_guard_yes rfl rfl rfl ?_); refine TL_index (m + 1) rfl rfl rfl (fun w h => h.sl hk.m) rfl hlt (Nat.le_refl _) ?_; exact qe) ?_; rotate_left)
            (refine' PG.val rfl rfl (by intro _X; (refine TL_guard_yes rfl rfl rfl ?_); refine TL_fieldAddr_el rfl rfl (fun w h => h.sl hk.m) hne ?_; exact qe) ?_; rotate_left)
            (refine' PG.val rfl rfl (by intro _X; (refine TL_guard_yes rfl rfl rfl ?_); refine TL_load_el1 (u := x) rfl rfl (fun w h => h.sl hk.m) hx rfl ?_; exact qe) ?_; rotate_left)
            iterate 4 (refine' pg ?_; rotate_left)
            (refine' PG.val rfl rfl (by intro _X; (refine TL_guard_yes rfl rfl rfl ?_); refine TL_index m rfl rfl rfl (fun w h => h.sl hk.m) (by omega) (by omega) (Nat.le_refl _) ?_; exact qe) ?_; rotate_left)
            (refine' PG.val rfl rfl (by intro _X; (refine TL_guard_yes rfl rfl rfl ?_); refine TL_fieldAddr_el rfl rfl (fun w h => h.sl hk.m) hne ?_; exact qe) ?_; rotate_left)
            (refine' PG.val rfl rfl (by intro _X; (refine TL_guard_yes rfl rfl rfl ?_); refine TL_load_el1 (u := y) rfl rfl (fun w h => h.sl hk.m) hy rfl ?_; exact qe) ?_; rotate_left)
            (refine' PG.val rfl rfl (by intro _X; (refine TL_guard_yes rfl rfl rfl ?_); refine TL_lss_f rfl rfl rfl q1 ?_; exact qe) ?_; rotate_left)
            iterate 4 (refine' pg ?_; rotate_left)
            (refine' PG.val rfl rfl (by intro _X; (refine TL_guard_yes rfl rfl rfl ?_); refine TL_index (m + 1) rfl rfl rfl (fun w h => h.sl hk.m) rfl hlt (Nat.le_refl _) ?_; exact qe) ?_; rotate_left)
            (refine' PG.val rfl rfl (by intro _X; (refine TL_guard_yes rfl rfl rfl ?_); refine TL_fieldAddr_el rfl rfl (fun w h => h.sl hk.m) hne ?_; exact qe) ?_; rotate_left)
            (refine' PG.val rfl rfl (by intro _X; (refine TL_guard_yes rfl rfl rfl ?_); refine TL_load_el1 (u := x) rfl rfl (fun w h => h.sl hk.m) hx rfl ?_; exact qe) ?_; rotate_left)
            iterate 4 (refine' pg ?_; rotate_left)
            (refine' PG.val rfl rfl (by intro _X; (refine TL_guard_yes rfl rfl rfl ?_); refine TL_index m rfl rfl rfl (fun w h => h.sl hk.m) (by omega) (by omega) (Nat.le_refl _) ?_; exact qe) ?_; rotate_left)
            (refine' PG.val rfl rfl (by intro _X; (refine TL_guard_yes rfl rfl rfl ?_); refine TL_fieldAddr_el rfl rfl (fun w h => h.sl hk.m) hne ?_; exact qe) ?_; rotate_left)
            (refine' PG.val rfl rfl (by intro _X; (refine TL_guard_yes rfl rfl rfl ?_); refine TL_load_el1 (u := y) rfl rfl (fun w h => h.sl hk.m) hy rfl ?_; exact qe) ?_; rotate_left)
            (refine' PG.val rfl rfl (by intro _X; (refine TL_guard_yes rfl rfl rfl ?_); refine TL_lss_t rfl rfl rfl q2 ?_; exact qe) ?_; rotate_left)
            (refine' pg ?_; rotate_left)
            exact PG.nil
          change TL _ _ _ _ _ _ _ _ _ _ _
          repeat' (first | refine rn ?_ | (refine zb ?_; intro _ _) | (refine za ?_; intro _ _) | (refine zs ?_; intro _ _))
          exact TQ_ret1 Tryz.results48 (RV.tmp rfl) (fun w' hs => bad w' _ hs)
        · skip
          apply TC_draw 33; kernel_rfl; exact Tryz.mixed
          · (refine' pv ?_; rotate_left)
            (refine' PG.val rfl rfl (by intro _X; refine TL_gtr_t rfl rfl rfl (by omega) ?_; exact qe) ?_; rotate_left)
            (refine' pv ?_; rotate_left)
            iterate 3 (refine' pg ?_; rotate_left)
            (refine' PG.val rfl rfl (by intro _X; (refine TL_guard_yes rfl rfl rfl ?_); refine TL_index (m + 1) rfl rfl rfl (fun w h => h.sl hk.m) rfl hlt (Nat.le_refl _) ?_; exact qe) ?_; rotate_left)
            (refine' PG.val rfl rfl (by intro _X; (refine TL_guard_yes rfl rfl rfl ?_); refine TL_fieldAddr_el rfl rfl (fun w h => h.sl hk.m) hne ?_; exact qe) ?_; rotate_left)
            (refine' PG.val rfl rfl (by intro _X; (refine TL_guard_yes rfl rfl rfl ?_); refine TL_load_el1 (u := x) rfl rfl (fun w h => h.sl hk.m) hx rfl ?_; exact qe) ?_; rotate_left)
            iterate 4 (refine' pg ?_; rotate_left)
            (refine' PG.val rfl rfl (by intro _X; (refine TL_guard_yes rfl rfl rfl ?_); refine TL_index m rfl rfl rfl (fun w h => h.sl hk.m) (by omega) (by omega) (Nat.le_refl _) ?_; exact qe) ?_; rotate_left)
            (refine' PG.val rfl rfl (by intro _X; (refine TL_guard_yes rfl rfl rfl ?_); refine TL_fieldAddr_el rfl rfl (fun w h => h.sl hk.m) hne ?_; exact qe) ?_; rotate_left)
            (refine' PG.val rfl rfl (by intro _X; (refine TL_guard_yes rfl rfl rfl ?_); refine TL_load_el1 (u := y) rfl rfl (fun w h => h.sl hk.m) hy rfl ?_; exact qe) ?_; rotate_left)
            (refine' PG.val rfl rfl (by intro _X; (refine TL_guard_yes rfl rfl rfl ?_); refine TL_lss_f rfl rfl rfl q1 ?_; exact qe) ?_; rotate_left)
            iterate 4 (refine' pg ?_; rotate_left)
            (refine' PG.val rfl rfl (by intro _X; (refine TL_guard_yes rfl rfl rfl ?_); refine TL_index (m + 1) rfl rfl rfl (fun w h => h.sl hk.m) rfl hlt (Nat.le_refl _) ?_; exact qe) ?_; rotate_left)
            (refine' PG.val rfl rfl (by intro _X; (refine TL_guard_yes rfl rfl rfl ?_); refine TL_fieldAddr_el rfl rfl (fun w h => h.sl hk.m) hne ?_; exact qe) ?_; rotate_left)
            (refine' PG.val rfl rfl (by intro _X; (refine TL_guard_yes rfl rfl rfl ?_); refine TL_load_el1 (u := x) rfl rfl (fun w h => h.sl hk.m) hx rfl ?_; exact qe) ?_; rotate_left)
            iterate 4 (refine' pg ?_; rotate_left)
            (refine' PG.val rfl rfl (by intro _X; (refine TL_guard_yes rfl rfl rfl ?_); refine TL_index m rfl rfl rfl (fun w h => h.sl hk.m) (by omega) (by omega) (Nat.le_refl _) ?_; exact qe) ?_; rotate_left)
            (refine' PG.val rfl rfl (by intro _X; (refine TL_guard_yes rfl rfl rfl ?_); refine TL_fieldAddr_el rfl rfl (fun w h => h.sl hk.m) hne ?_; exact qe) ?_; rotate_left)
            (refine' PG.val rfl rfl (by intro _X; (refine TL_guard_yes rfl rfl rfl ?_); refine TL_load_el1 (u := y) rfl rfl (fun w h => h.sl hk.m) hy rfl ?_; exact qe) ?_; rotate_left)
            (refine' PG.val rfl rfl (by intro _X; (refine TL_guard_yes rfl rfl rfl ?_); refine TL_lss_f rfl rfl rfl q2 ?_; exact qe) ?_; rotate_left)
            (refine' pg ?_; rotate_left)
            exact PG.nil
          change TL _ _ _ _ _ _ _ _ _ _ _
          repeat' (first | refine rn ?_ | (refine zb ?_; intro _ _) | (refine za ?_; intro _ _) | (refine zs ?_; intro _ _))
          refine TQ_round (m + 2) ⟨by omega, hord' g4', fun j a b hj ha hb => ?_⟩ (by omega) sb (fun w h => h.sub su)
          rcases Nat.lt_or_ge (j + 1) (m + 1) with h | h
          · exact hsrt j a b h ha hb
          · have : j = m := by omega
            subst this; rw [hx] at hb; rw [hy] at ha; cases ha; cases hb; omega
  have hil : i = k.marks.length := by omega
  subst hil
  repeat' (first | refine rn ?_ | (refine zb ?_; intro _ _) | (refine za ?_; intro _ _) | (refine zs ?_; intro _ _))
  refine TC_loop (σ := Nat) (fun i => i ≤ k.stars.length ∧ ∀ (j : Nat) a, j < i → k.stars[j]? = some a → OkSt a) (fun i => [(1, .pointer (some ⟨b1, 0, none⟩)), (4, .int .i64 i)]) (fun i => [(b1, .cells (encCk k) 27)]) (fun i => k.stars.length - i) 0 ⟨Nat.zero_le _, fun j a h => by omega⟩ sb (fun w h => h.sub su) (fun i hi => ?_)
  obtain ⟨hi, hst⟩ := hi
  repeat' (first | refine rn ?_ | (refine zb ?_; intro _ _) | (refine za ?_; intro _ _) | (refine zs ?_; intro _ _))
  refine TC_cond_dec rfl (fun g3 => ?_) (fun g3 => ?_)
  · have hlt : i < k.stars.length := by omega
    obtain ⟨x, hx⟩ : ∃ x, k.stars[i]? = some x := ⟨_, List.getElem?_eq_getElem hlt⟩
    have hne : k.stars ≠ [] := by intro h; rw [h] at hlt; simp at hlt
    repeat' (first | refine rn ?_ | (refine zb ?_; intro _ _) | (refine za ?_; intro _ _) | (refine zs ?_; intro _ _))
    refine TL_index i rfl rfl rfl (fun w h => h.sl hk.s) rfl hlt (Nat.le_refl _) ?_
    refine TL_fieldAddr_el rfl rfl (fun w h => h.sl hk.s) hne ?_
    refine TL_load_eln (u := x) rfl rfl (fun w h => h.sl hk.s) hx rfl ?_
    refine TL_callV rfl rfl rfl (fun w h => c91 x.1 _ _ w) ?_
    repeat' (first | refine rn ?_ | (refine zb ?_; intro _ _) | (refine za ?_; intro _ _) | (refine zs ?_; intro _ _))
    refine TL_gsplit_dec rfl rfl (fun g4 => ?_) (fun g4 => ?_)
    · repeat' (first | refine rn ?_ | (refine zb ?_; intro _ _) | (refine za ?_; intro _ _) | (refine zs ?_; intro _ _))
      exact TQ_ret1 Tryz.results48 (RV.tmp rfl) (fun w' hs => bad w' _ hs)
    repeat' (first | refine rn ?_ | (refine zb ?_; intro _ _) | (refine za ?_; intro _ _) | (refine zs ?_; intro _ _))
    refine TL_index i rfl rfl rfl (fun w h => h.sl hk.s) rfl hlt (Nat.le_refl _) ?_
    refine TL_guard_yes rfl rfl rfl ?_
    refine TL_fieldAddr_el rfl rfl (fun w h => h.sl hk.s) hne ?_
    refine TL_guard_yes rfl rfl rfl ?_
    refine TL_load_eln (u := x) rfl rfl (fun w h => h.sl hk.s) hx rfl ?_
    refine TL_guard_yes rfl rfl rfl ?_
    refine TL_callV rfl rfl rfl (fun w h => c91 x.2 _ _ w) ?_
    repeat' (first | refine rn ?_ | (refine zb ?_; intro _ _) | (refine za ?_; intro _ _) | (refine zs ?_; intro _ _))
    refine TC_cond_dec rfl (fun g5 => ?_) (fun g5 => ?_)
    · repeat' (first | refine rn ?_ | (refine zb ?_; intro _ _) | (refine za ?_; intro _ _) | (refine zs ?_; intro _ _))
      exact TQ_ret1 Tryz.results48 (RV.tmp rfl) (fun w' hs => bad w' _ hs)
    repeat' (first | refine rn ?_ | (refine zb ?_; intro _ _) | (refine za ?_; intro _ _) | (refine zs ?_; intro _ _))
    refine TQ_round (i + 1) ⟨by omega, fun j a hj ha => ?_⟩ (by omega) sb (fun w h => h.sub su)
    rcases Nat.lt_or_ge j i with h | h
    · exact hst j a h ha
    · have : j = i := by omega
      subst this; rw [hx] at ha; cases ha; exact ⟨Classical.not_not.1 g4, Classical.not_not.1 g5⟩
  have hil : i = k.stars.length := by omega
  subst hil
  repeat' (first | refine rn ?_ | (refine zb ?_; intro _ _) | (refine za ?_; intro _ _) | (refine zs ?_; intro _ _))
  refine TL_callV rfl rfl rfl (fun w h => c91 k.hand _ _ w) ?_
  repeat' (first | refine rn ?_ | (refine zb ?_; intro _ _) | (refine za ?_; intro _ _) | (refine zs ?_; intro _ _))
  refine TL_gsplit_dec rfl rfl (fun g4 => ?_) (fun g4 => ?_)
  · repeat' (first | refine rn ?_ | (refine zb ?_; intro _ _) | (refine za ?_; intro _ _) | (refine zs ?_; intro _ _))
    refine TL_callV rfl rfl rfl (fun w h => c91 k.sinks _ _ w) ?_
    repeat' (first | refine rn ?_ | (refine zb ?_; intro _ _) | (refine za ?_; intro _ _) | (refine zs ?_; intro _ _))
    refine TQ_ret1 Tryz.results48 (RV.tmp rfl) (fun w' hs => ⟨decide (Ord k.sinks 1000 100000), fun h => ?_, rfl, hs.sub (List.nil_sublist _)⟩)
    refine ⟨by omega, fun x hx => ?_, by omega, fun x hx => ?_, g4, of_decide_eq_true h, (srtB_iff _).2 (fun j a b ha hb => hsrt j a b (List.getElem?_eq_some_iff.1 hb).1 ha hb)⟩
    · obtain ⟨i, hi⟩ := List.getElem?_of_mem hx
      exact hord i x (List.getElem?_eq_some_iff.1 hi).1 hi
    · obtain ⟨i, hi⟩ := List.getElem?_of_mem hx
      exact hst i x (List.getElem?_eq_some_iff.1 hi).1 hi
  · repeat' (first | refine rn ?_ | (refine zb ?_; intro _ _) | (refine za ?_; intro _ _) | (refine zs ?_; intro _ _))
    exact TQ_ret1 Tryz.results48 (RV.tmp rfl) (fun w' hs => bad w' _ hs)
theorem c17 (k : Ck) (w : World) (hk : CkAt w k) : Calls Tryz.prog 17 #[.agg (encCk k).toArray] w (RetP w.heap.size w (fun e : Int => .int .i64 e) (fun _ => []) (fun e => e = 0 → OkCk k)) := by
  refine enter (args := [.agg (encCk k).toArray]) Tryz.func17 rfl Tryz.ntmps17 rfl (SH.refl _) ?_
  repeat' (first | refine rn ?_ | (refine zb ?_; intro _ _) | (refine za ?_; intro _ _) | (refine zs ?_; intro _ _))
  refine TL_callN rfl rfl rfl (fun w h => c48 k w (hk.mono h.below)) ?_
  intro b hb
  repeat' (first | refine rn ?_ | (refine zb ?_; intro _ _) | (refine za ?_; intro _ _) | (refine zs ?_; intro _ _))
  cases b with
  | false =>
    repeat' (first | refine rn ?_ | (refine zb ?_; intro _ _) | (refine za ?_; intro _ _) | (refine zs ?_; intro _ _))
    exact TQ_ret1 Tryz.results17 (RV.tmp rfl) (fun w' hs => ⟨30, fun h => absurd h (by decide), rfl, hs.sub (List.nil_sublist _)⟩)
  | true =>
    repeat' (first | refine rn ?_ | (refine zb ?_; intro _ _) | (refine za ?_; intro _ _) | (refine zs ?_; intro _ _))
    exact TQ_ret1 Tryz.results17 (RV.tmp rfl) (fun w' hs => ⟨0, fun _ => hb rfl, rfl, hs.sub (List.nil_sublist _)⟩)
theorem c45 (l1 l2 : List Sp) (a1 a2 : Option Addr) (p1 p2 : Nat) (h1 : Small l1.length) (w : World) (hl1 : Sl w 2 encSp a1 l1) (hl2 : Sl w 2 encSp a2 l2) (he : l1 = l2) : Calls Tryz.prog 45 #[.slice a1 l1.length p1, .slice a2 l2.length p2] w (RetV w (.bool true)) := by
  subst he
  unfold Small at h1
  refine enter (args := [.slice a1 l1.length p1, .slice a2 l1.length p2]) Tryz.func45 rfl Tryz.ntmps45 rfl (SH.refl _) ?_
  repeat' (first | refine rn ?_ | (refine zb ?_; intro _ _) | (refine za ?_; intro _ _) | (refine zs ?_; intro _ _))
  refine TC_cond_dec rfl (fun g => absurd rfl g) (fun _ => ?_)
  repeat' (first | refine rn ?_ | (refine zb ?_; intro _ _) | (refine za ?_; intro _ _) | (refine zs ?_; intro _ _))
  refine TC_loop (σ := Nat) (fun k => k ≤ l1.length) (fun k => [(0, .slice a1 l1.length p1), (1, .slice a2 l1.length p2), (5, .int .i64 k)]) (fun k => []) (fun k => l1.length - k) 0 (Nat.zero_le _) sb (fun w h => h) (fun k hk => ?_)
  repeat' (first | refine rn ?_ | (refine zb ?_; intro _ _) | (refine za ?_; intro _ _) | (refine zs ?_; intro _ _))
  refine TC_cond_dec rfl (fun g1 => ?_) (fun g1 => ?_)
  · have hlt : k < l1.length := by omega
    obtain ⟨x, hx⟩ : ∃ x, l1[k]? = some x := ⟨_, List.getElem?_eq_getElem hlt⟩
    repeat' (first | refine rn ?_ | (refine zb ?_; intro _ _) | (refine za ?_; intro _ _) | (refine zs ?_; intro _ _))
    apply TC_draw 8; kernel_rfl; exact Tryz.mixed
    · iterate 2 (refine' pv ?_; rotate_left)
      (refine' PG.val rfl rfl (by intro _X; refine TL_index k rfl rfl rfl (fun w h => h.sl hl1) rfl hlt (Nat.le_refl _) ?_; exact qe) ?_; rotate_left)
      (refine' PG.val rfl rfl (by intro _X; refine TL_load_eln (u := x) rfl rfl (fun w h => h.sl hl1) hx rfl ?_; exact qe) ?_; rotate_left)
      iterate 2 (refine' pv ?_; rotate_left)
      (refine' PG.val rfl rfl (by intro _X; refine TL_index k rfl rfl rfl (fun w h => h.sl hl2) rfl hlt (Nat.le_refl _) ?_; exact qe) ?_; rotate_left)
      (refine' PG.val rfl rfl (by intro _X; refine TL_load_eln (u := x) rfl rfl (fun w h => h.sl hl2) hx rfl ?_; exact qe) ?_; rotate_left)
      exact PG.nil
    change TL _ _ _ _ _ _ _ _ _ _ _
    refine TL_neqS_same rfl rfl rfl rfl rfl rfl rfl ?_
    repeat' (first | refine rn ?_ | (refine zb ?_; intro _ _) | (refine za ?_; intro _ _) | (refine zs ?_; intro _ _))
    exact TQ_round (k + 1) (by omega) (by omega) sb (fun w h => h)
  · repeat' (first | refine rn ?_ | (refine zb ?_; intro _ _) | (refine za ?_; intro _ _) | (refine zs ?_; intro _ _))
    exact TQ_ret1 Tryz.results45 (RV.tmp rfl) (fun w' hs => ⟨rfl, hs.below⟩)
end Go.Proofs.YtkpkebpofpcmaaaGreatDoor
