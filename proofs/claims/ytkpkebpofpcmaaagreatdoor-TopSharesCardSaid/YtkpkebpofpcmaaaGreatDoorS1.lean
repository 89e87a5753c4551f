/- Walks: the stable sort of deeds. -/
import Derived.Test.YtkpkebpofpcmaaaGreatDoorEngR
import Derived.Test.YtkpkebpofpcmaaaGreatDoorFacts
import Derived.Test.YtkpkebpofpcmaaaGreatDoorEngH
import Derived.Test.YtkpkebpofpcmaaaGreatDoorT0
import Derived.Test.YtkpkebpofpcmaaaGreatDoorS0
namespace Go.Proofs.YtkpkebpofpcmaaaGreatDoor
open Go Go.Eng Go.RowKit Go.Proofs
set_option maxHeartbeats 4000000
set_option maxRecDepth 10000
def CmpG {α : Type} (B : Nat) (w0 : World) (G : Hp) (vl : α → Value) (cmp : α → α → Int) (kf : FuncId) (cl : List Value) (l0 : List α) : Prop :=
  ∀ x ∈ l0, ∀ y ∈ l0, ∀ (H : Hp) (w' : World), (∀ p ∈ G, p ∈ H) → SH B w0 w' H → Calls Tryz.prog kf (vl x :: vl y :: cl).toArray w' (RetV w' (.int .i64 (cmp x y)))
def ltC {α : Type} (cmp : α → α → Int) (x y : α) : Bool := decide (cmp x y < 0)
theorem wrap_u64_nn {n : Int} (h : 0 ≤ n) (h2 : n ≤ 9223372036854775807) : IntKind.u64.wrap n = n := by rw [IntKind.wrap_u64]; omega
theorem wrap_i64_nn {n : Int} (h : 0 ≤ n) (h2 : n ≤ 9223372036854775807) : IntKind.i64.wrap n = n := wrap_i64_of (by omega)
section
variable {r : Option Nat} {P : Program} {Q : Exit → Act → World → Prop} {N : Nat} {D : List Deferred} {B : Nat} {w0 : World} {L : Env} {H : Hp} {ops : Array Oper} {rest : List Oper}
theorem TL_join {y : Code} {σ : Type} (p : σ → Prop) (Lx : σ → Env) (Hx : σ → Hp) (h1 : TL r P (Exit.then (fun a w => ∃ s, p s ∧ Fr N D (Lx s) a ∧ SH B w0 w (Hx s)) Q) N D B w0 L H ops rest)
    (h2 : ∀ s, p s → TC r P Q N D B w0 (Lx s) (Hx s) y) : TL r P (Exit.then (y.wpIn (FW r) 0 P Q) Q) N D B w0 L H ops rest :=
  TL.mono_Q (fun e a' w' hq => by
    cases e with
    | normal => obtain ⟨s, hp, hf', hs'⟩ := hq; exact h2 s hp _ _ hf' hs'
    | _ => exact hq) h1
end
attribute [local irreducible] TL TC TQ

theorem c209 {B : Nat} {w0 : World} {G : Hp} (cmp : Dd → Dd → Int) (kf : FuncId) (cl : List Value) [EntP Tryz.prog kf] (l0 l : List Dd) (ao : Option Addr) (cap : Nat) (ob : Hp) (a b : Nat) (hk : Keeps l0 l) (hsm : l0.length ≤ 1000) (hb : b ≤ l0.length) (ha : a ≤ 1000) (hrow : Row 50 9 encDd ao cap ob l) (hcmp : CmpG B w0 G (fun x : Dd => .agg (encDd x).toArray) cmp kf cl l0) (w : World) (hs : SH B w0 w (ob ++ G)) :
    Calls Tryz.prog 209 #[.slice ao l0.length cap, .int .i64 a, .int .i64 b, .func (.func kf) #[] cl.toArray] w (RetP B w0 (fun _ : Hp => .tuple #[]) (fun o => o ++ G) (fun o => Row 50 9 encDd ao cap o (insS (ltC cmp) a b l))) := by
  refine enter (args := [.slice ao l0.length cap, .int .i64 a, .int .i64 b, .func (.func kf) #[] cl.toArray]) Tryz.func209 rfl Tryz.ntmps209 rfl hs ?_
  repeat' (first | refine rn ?_ | (refine zb ?_; intro _ _) | (refine za ?_; intro _ _) | (refine zs ?_; intro _ _))
  refine TC_loop (σ := Nat × List Dd × Hp) (fun q => a < q.1 ∧ Keeps l0 q.2.1 ∧ insI (ltC cmp) a q.1 (b - q.1) q.2.1 = insS (ltC cmp) a b l ∧ Row 50 9 encDd ao cap q.2.2 q.2.1) (fun q => [(0, .slice ao l0.length cap), (1, .int .i64 a), (2, .int .i64 b), (3, .func (.func kf) #[] cl.toArray), (8, .int .i64 q.1)]) (fun q => q.2.2 ++ G) (fun q => b - q.1) (a + 1, l, ob) ⟨Nat.lt_succ_self a, hk, rfl, hrow⟩ sb (fun w h => h) (fun q hq => ?_)
  obtain ⟨k, m, o⟩ := q
  obtain ⟨hak, hkm, hT, hr⟩ := hq
  dsimp only at hak hkm hT hr ⊢
  repeat' (first | refine rn ?_ | (refine zb ?_; intro _ _) | (refine za ?_; intro _ _) | (refine zs ?_; intro _ _))
  refine TC_cond_dec rfl (fun g1 => ?_) (fun g1 => ?_)
  · have hkb : k < b := by omega
    obtain ⟨rr, hrr⟩ : ∃ rr, b - k = rr + 1 := ⟨b - k - 1, by omega⟩
    rw [hrr, insI] at hT
    repeat' (first | refine rn ?_ | (refine zb ?_; intro _ _) | (refine za ?_; intro _ _) | (refine zs ?_; intro _ _))
    refine TC_loop (σ := Nat × List Dd × Hp) (fun q => a ≤ q.1 ∧ q.1 ≤ k ∧ Keeps l0 q.2.1 ∧ insJ (ltC cmp) a q.2.1 q.1 = insJ (ltC cmp) a m k ∧ Row 50 9 encDd ao cap q.2.2 q.2.1) (fun q => [(0, .slice ao l0.length cap), (1, .int .i64 a), (2, .int .i64 b), (3, .func (.func kf) #[] cl.toArray), (8, .int .i64 k), (9, .int .i64 q.1)]) (fun q => q.2.2 ++ G) (fun q => q.1) (k, m, o) ⟨Nat.le_of_lt hak, Nat.le_refl _, hkm, rfl, hr⟩ sb (fun w h => h) (fun q hq => ?_)
    obtain ⟨j, m2, o2⟩ := q
    obtain ⟨haj, hjk, hk2, hT2, hr2⟩ := hq
    dsimp only at haj hjk hk2 hT2 hr2 ⊢
    have hml2 := hk2.len
    have fin : ∀ m3, insJ (ltC cmp) a m3 j = m3 → insJ (ltC cmp) a m3 j = insJ (ltC cmp) a m k → insI (ltC cmp) a (k + 1) (b - (k + 1)) m3 = insS (ltC cmp) a b l := fun m3 h1 h2 => by
      rw [show b - (k + 1) = rr by omega]
      rw [← h2, h1] at hT
      exact hT
    by_cases gj : a < j
    rotate_left
    · have e : insJ (ltC cmp) a m2 j = m2 := by
        cases j with
        | zero => rfl
        | succ j => unfold insJ; rw [if_neg (fun h => gj h.1)]
      repeat' (first | refine rn ?_ | (refine zb ?_; intro _ _) | (refine za ?_; intro _ _) | (refine zs ?_; intro _ _))
      apply TC_draw 17; kernel_rfl; exact Tryz.mixed
      · iterate 2 (refine' pv ?_; rotate_left)
        (refine' PG.val rfl rfl (by intro _X; refine TL_gtr_f rfl rfl rfl (by omega) ?_; exact qe) ?_; rotate_left)
        iterate 14 (refine' pv ?_; rotate_left)
        exact PG.nil
      change TL _ _ _ _ _ _ _ _ _ _ _
      repeat' (first | refine rn ?_ | (refine zb ?_; intro _ _) | (refine za ?_; intro _ _) | (refine zs ?_; intro _ _))
      exact TQ_round (k + 1, m2, o2) ⟨by dsimp only; omega, hk2, fin m2 e hT2, hr2⟩ (by dsimp only; omega) sb (fun w h => h)
    obtain ⟨j', rfl⟩ : ∃ j', j = j' + 1 := ⟨j - 1, by omega⟩
    obtain ⟨x, hx⟩ : ∃ x, m2[j' + 1]? = some x := ⟨_, List.getElem?_eq_getElem (by omega)⟩
    obtain ⟨y, hy⟩ : ∃ y, m2[j']? = some y := ⟨_, List.getElem?_eq_getElem (by omega)⟩
    have hlt := ltAt_eq (ltC cmp) hx hy
    repeat' (first | refine rn ?_ | (refine zb ?_; intro _ _) | (refine za ?_; intro _ _) | (refine zs ?_; intro _ _))
    apply TC_draw 17; kernel_rfl; exact Tryz.mixed
    · iterate 2 (refine' pv ?_; rotate_left)
      (refine' PG.val rfl rfl (by intro _X; refine TL_gtr_t rfl rfl rfl (by omega) ?_; exact qe) ?_; rotate_left)
      (refine' pv ?_; rotate_left)
      iterate 3 (refine' pg ?_; rotate_left)
      (refine' PG.val rfl rfl (by intro _X; (refine TL_guard_yes rfl rfl rfl ?_); refine TL_index (j' + 1) rfl rfl rfl (fun w h => hr2.sl h (fun p hp => by repeat (first | exact hp | exact List.mem_append_left _ hp | apply List.mem_append_right | apply List.mem_cons_of_mem))) (by omega) (by omega) (by omega) ?_; exact qe) ?_; rotate_left)
      (refine' PG.val rfl rfl (by intro _X; (refine TL_guard_yes rfl rfl rfl ?_); refine TL_load_eln (u := x) rfl rfl (fun w h => hr2.sl h (fun p hp => by repeat (first | exact hp | exact List.mem_append_left _ hp | apply List.mem_append_right | apply List.mem_cons_of_mem))) hx rfl ?_; exact qe) ?_; rotate_left)
      iterate 3 (refine' pg ?_; rotate_left)
      (refine' PG.val rfl rfl (by intro _X; (refine TL_guard_yes rfl rfl rfl ?_); refine TL_index (j') rfl rfl rfl (fun w h => hr2.sl h (fun p hp => by repeat (first | exact hp | exact List.mem_append_left _ hp | apply List.mem_append_right | apply List.mem_cons_of_mem))) (by omega) (by omega) (by omega) ?_; exact qe) ?_; rotate_left)
      (refine' PG.val rfl rfl (by intro _X; (refine TL_guard_yes rfl rfl rfl ?_); refine TL_load_eln (u := y) rfl rfl (fun w h => hr2.sl h (fun p hp => by repeat (first | exact hp | exact List.mem_append_left _ hp | apply List.mem_append_right | apply List.mem_cons_of_mem))) hy rfl ?_; exact qe) ?_; rotate_left)
      (refine' PG.val rfl rfl (by intro _X; (refine TL_guard_yes rfl rfl rfl ?_); refine TL_callV rfl rfl rfl (fun w h => hcmp x (hk2.mem x (List.mem_of_getElem? hx)) y (hk2.mem y (List.mem_of_getElem? hy)) _ w (fun p hp => by repeat (first | exact hp | exact List.mem_append_left _ hp | apply List.mem_append_right | apply List.mem_cons_of_mem)) h) ?_; exact qe) ?_; rotate_left)
      (refine' pg ?_; rotate_left)
      (refine' pv ?_; rotate_left)
      exact PG.nil
    change TL _ _ _ _ _ _ _ _ _ _ _
    repeat' (first | refine rn ?_ | (refine zb ?_; intro _ _) | (refine za ?_; intro _ _) | (refine zs ?_; intro _ _))
    refine TC_cond_dec rfl (fun g2 => ?_) (fun g2 => ?_)
    · have e : insJ (ltC cmp) a m2 (j' + 1) = insJ (ltC cmp) a (sw m2 (j' + 1) j') j' := by rw [insJ, if_pos ⟨gj, by rw [hlt]; exact decide_eq_true g2⟩]
      rw [e] at hT2
      obtain ⟨bb, cs, cs', rfl, rfl, hput, hr3⟩ := Row.put hr2 (off := 0) (vs := encDd y) (u' := y) hx rfl rfl
      obtain ⟨b', cs1, cs2, e1, e2, hput2, hr4⟩ := hr3.put (off := 0) (i := j') (vs := encDd x) (u := y) (u' := x) (by rw [List.getElem?_set_ne (by omega)]; exact hy) rfl rfl
      cases e1
      cases e2
      have hsl : ∀ (H : Hp) w', (bb, .cells cs 50) ∈ H → SH B w0 w' H → Sl w' 9 encDd (some ⟨bb, 0, none⟩) m2 := fun H w' hm h => Row.sl hr2 h (fun p hp => by rw [List.mem_singleton.1 hp]; exact hm)
      have hsl1 : ∀ (H : Hp) w', (bb, .cells cs' 50) ∈ H → SH B w0 w' H → Sl w' 9 encDd (some ⟨bb, 0, none⟩) (m2.set (j' + 1) y) := fun H w' hm h => hr3.sl h (fun p hp => by rw [List.mem_singleton.1 hp]; exact hm)
      have hputa : putN (0 + ((j' + 1) * 9 + 0)) (encDd y) cs = some cs' := by rw [Nat.zero_add]; exact hput
      have hputb : putN (0 + ((j') * 9 + 0)) (encDd x) cs' = some cs2 := by rw [Nat.zero_add]; exact hput2
      rw [← sw_set hx hy] at hr4
      repeat' (first | refine rn ?_ | (refine zb ?_; intro _ _) | (refine za ?_; intro _ _) | (refine zs ?_; intro _ _))
      apply TC_draw5 16 15 35 0 [8, 9, 12, 13, 14]; exact rfl; kernel_rfl; exact rfl; exact Tryz.mixed; exact rfl
      · iterate 8 (refine' pv5 ?_; rotate_left)
        (refine' PG5.vale rfl rfl rfl (by rintro  _X; refine TL_index (j') rfl rfl rfl (fun w h => hsl _ w mm h) (by omega) (by omega) (by omega) ?_; exact qe) ?_; rotate_left)
        (refine' PG5.vale rfl rfl rfl (by rintro  _X; refine TL_load_eln (u := y) rfl rfl (fun w h => hsl _ w mm h) hy rfl ?_; exact qe) ?_; rotate_left)
        iterate 2 (refine' pv5 ?_; rotate_left)
        (refine' PG5.vale rfl rfl rfl (by rintro  _X; refine TL_index (j' + 1) rfl rfl rfl (fun w h => hsl _ w mm h) (by omega) (by omega) (by omega) ?_; exact qe) ?_; rotate_left)
        (refine' PG5.vale rfl rfl rfl (by rintro  _X; refine TL_load_eln (u := x) rfl rfl (fun w h => hsl _ w mm h) hx rfl ?_; exact qe) ?_; rotate_left)
        (refine' PG5.vale rfl rfl rfl (by rintro  _X; refine TL_index (j' + 1) rfl rfl rfl (fun w h => hsl _ w mm h) (by omega) (by omega) (by omega) ?_; exact qe) ?_; rotate_left)
        (refine' PG5.sto ([(bb, .cells cs' 50)]) rfl rfl (by intro _X; refine TL_store (b := bb) (cs := cs) (cs' := cs') (T := 50) rfl rfl rfl rfl rfl up hputa ?_; exact TL_nil (TQ_QD (fun _ h => h))) ?_; rotate_left)
        exact PG5.nil
      rintro _ _ rfl
      change TL _ _ _ _ _ _ _ _ _ _ _
      repeat' (first | refine rn ?_ | (refine zb ?_; intro _ _) | (refine za ?_; intro _ _) | (refine zs ?_; intro _ _))
      refine TL_index (j') rfl rfl rfl (fun w h => hsl1 _ w (List.mem_append_left _ (List.Mem.head _)) h) (by omega) (by rw [List.length_set]; omega) (by rw [List.length_set]; omega) ?_
      refine TL_store (b := bb) (cs := cs') (cs' := cs2) (T := 50) rfl rfl rfl rfl rfl (by exact Upd.head) hputb ?_
      repeat' (first | refine rn ?_ | (refine zb ?_; intro _ _) | (refine za ?_; intro _ _) | (refine zs ?_; intro _ _))
      rw [show (((j' + 1 : Nat) : Int) - 1) = (j' : Int) by omega]
      exact TQ_round (j', sw m2 (j' + 1) j', [(bb, .cells cs2 50)]) ⟨by dsimp only; omega, by dsimp only; omega, hk2.trans (sw_keeps _ _ _), hT2, hr4⟩ (by dsimp only; omega) sb (fun w h => h)
    · have e : insJ (ltC cmp) a m2 (j' + 1) = m2 := by rw [insJ, if_neg (fun h => g2 (by have := h.2; rw [hlt] at this; exact of_decide_eq_true this))]
      repeat' (first | refine rn ?_ | (refine zb ?_; intro _ _) | (refine za ?_; intro _ _) | (refine zs ?_; intro _ _))
      exact TQ_round (k + 1, m2, o2) ⟨by dsimp only; omega, hk2, fin m2 e hT2, hr2⟩ (by dsimp only; omega) sb (fun w h => h)
  · rw [show b - k = 0 by omega, insI] at hT
    repeat' (first | refine rn ?_ | (refine zb ?_; intro _ _) | (refine za ?_; intro _ _) | (refine zs ?_; intro _ _))
    exact TQ_end0 Tryz.results209 (fun w' hs => ⟨o, hT ▸ hr, rfl, hs⟩)
theorem c228 {B : Nat} {w0 : World} {G : Hp} (cmp : Dd → Dd → Int) (kf : FuncId) (cl : List Value) [EntP Tryz.prog kf] (l0 l : List Dd) (ao : Option Addr) (cap : Nat) (ob : Hp) (a b n : Nat) (hk : Keeps l0 l) (hsm : l0.length ≤ 1000) (hab : a < b) (hb : b + n ≤ l0.length) (hrow : Row 50 9 encDd ao cap ob l) (hcmp : CmpG B w0 G (fun x : Dd => .agg (encDd x).toArray) cmp kf cl l0) (w : World) (hs : SH B w0 w (ob ++ G)) :
    Calls Tryz.prog 228 #[.slice ao l0.length cap, .int .i64 a, .int .i64 b, .int .i64 n, .func (.func kf) #[] cl.toArray] w (RetP B w0 (fun _ : Hp => .tuple #[]) (fun o => o ++ G) (fun o => Row 50 9 encDd ao cap o (swR a b 0 n l))) := by
  refine enter (args := [.slice ao l0.length cap, .int .i64 a, .int .i64 b, .int .i64 n, .func (.func kf) #[] cl.toArray]) Tryz.func228 rfl Tryz.ntmps228 rfl hs ?_
  repeat' (first | refine rn ?_ | (refine zb ?_; intro _ _) | (refine za ?_; intro _ _) | (refine zs ?_; intro _ _))
  refine TC_loop (σ := Nat × List Dd × Hp) (fun q => q.1 ≤ n ∧ Keeps l0 q.2.1 ∧ swR a b q.1 (n - q.1) q.2.1 = swR a b 0 n l ∧ Row 50 9 encDd ao cap q.2.2 q.2.1) (fun q => [(0, .slice ao l0.length cap), (1, .int .i64 a), (2, .int .i64 b), (3, .int .i64 n), (10, .int .i64 q.1)]) (fun q => q.2.2 ++ G) (fun q => n - q.1) (0, l, ob) ⟨Nat.zero_le _, hk, rfl, hrow⟩ sb (fun w h => h) (fun q hq => ?_)
  obtain ⟨k, m2, o⟩ := q
  obtain ⟨hkn, hk2, hT, hr2⟩ := hq
  dsimp only at hkn hk2 hT hr2 ⊢
  have hml2 := hk2.len
  repeat' (first | refine rn ?_ | (refine zb ?_; intro _ _) | (refine za ?_; intro _ _) | (refine zs ?_; intro _ _))
  refine TC_cond_dec rfl (fun g1 => ?_) (fun g1 => ?_)
  · obtain ⟨rr, hrr⟩ : ∃ rr, n - k = rr + 1 := ⟨n - k - 1, by omega⟩
    rw [hrr, swR] at hT
    obtain ⟨x, hx⟩ : ∃ x, m2[a + k]? = some x := ⟨_, List.getElem?_eq_getElem (by omega)⟩
    obtain ⟨y, hy⟩ : ∃ y, m2[b + k]? = some y := ⟨_, List.getElem?_eq_getElem (by omega)⟩
    obtain ⟨bb, cs, cs', rfl, rfl, hput, hr3⟩ := Row.put hr2 (off := 0) (vs := encDd y) (u' := y) hx rfl rfl
    obtain ⟨b', cs1, cs2, e1, e2, hput2, hr4⟩ := hr3.put (off := 0) (i := b + k) (vs := encDd x) (u := y) (u' := x) (by rw [List.getElem?_set_ne (by omega)]; exact hy) rfl rfl
    cases e1
    cases e2
    have hsl : ∀ (H : Hp) w', (bb, .cells cs 50) ∈ H → SH B w0 w' H → Sl w' 9 encDd (some ⟨bb, 0, none⟩) m2 := fun H w' hm h => Row.sl hr2 h (fun p hp => by rw [List.mem_singleton.1 hp]; exact hm)
    have hsl1 : ∀ (H : Hp) w', (bb, .cells cs' 50) ∈ H → SH B w0 w' H → Sl w' 9 encDd (some ⟨bb, 0, none⟩) (m2.set (a + k) y) := fun H w' hm h => hr3.sl h (fun p hp => by rw [List.mem_singleton.1 hp]; exact hm)
    have hputa : putN (0 + ((a + k) * 9 + 0)) (encDd y) cs = some cs' := by rw [Nat.zero_add]; exact hput
    have hputb : putN (0 + ((b + k) * 9 + 0)) (encDd x) cs' = some cs2 := by rw [Nat.zero_add]; exact hput2
    rw [← sw_set hx hy] at hr4
    repeat' (first | refine rn ?_ | (refine zb ?_; intro _ _) | (refine za ?_; intro _ _) | (refine zs ?_; intro _ _))
    apply TC_draw5 22 21 14 0 [12, 13, 18, 19, 20]; exact rfl; kernel_rfl; exact rfl; exact Tryz.mixed; exact rfl
    · iterate 12 (refine' pv5 ?_; rotate_left)
      (refine' PG5.vale rfl rfl rfl (by rintro  _X; refine TL_index (b + k) rfl rfl rfl (fun w h => hsl _ w mm h) (by omega) (by omega) (by omega) ?_; exact qe) ?_; rotate_left)
      (refine' PG5.vale rfl rfl rfl (by rintro  _X; refine TL_load_eln (u := y) rfl rfl (fun w h => hsl _ w mm h) hy rfl ?_; exact qe) ?_; rotate_left)
      iterate 4 (refine' pv5 ?_; rotate_left)
      (refine' PG5.vale rfl rfl rfl (by rintro  _X; refine TL_index (a + k) rfl rfl rfl (fun w h => hsl _ w mm h) (by omega) (by omega) (by omega) ?_; exact qe) ?_; rotate_left)
      (refine' PG5.vale rfl rfl rfl (by rintro  _X; refine TL_load_eln (u := x) rfl rfl (fun w h => hsl _ w mm h) hx rfl ?_; exact qe) ?_; rotate_left)
      (refine' PG5.vale rfl rfl rfl (by rintro  _X; refine TL_index (a + k) rfl rfl rfl (fun w h => hsl _ w mm h) (by omega) (by omega) (by omega) ?_; exact qe) ?_; rotate_left)
      (refine' PG5.sto ([(bb, .cells cs' 50)]) rfl rfl (by intro _X; refine TL_store (b := bb) (cs := cs) (cs' := cs') (T := 50) rfl rfl rfl rfl rfl up hputa ?_; exact TL_nil (TQ_QD (fun _ h => h))) ?_; rotate_left)
      exact PG5.nil
    rintro _ _ rfl
    change TL _ _ _ _ _ _ _ _ _ _ _
    repeat' (first | refine rn ?_ | (refine zb ?_; intro _ _) | (refine za ?_; intro _ _) | (refine zs ?_; intro _ _))
    refine TL_index (b + k) rfl rfl rfl (fun w h => hsl1 _ w (List.mem_append_left _ (List.Mem.head _)) h) (by omega) (by rw [List.length_set]; omega) (by rw [List.length_set]; omega) ?_
    refine TL_store (b := bb) (cs := cs') (cs' := cs2) (T := 50) rfl rfl rfl rfl rfl (by exact Upd.head) hputb ?_
    repeat' (first | refine rn ?_ | (refine zb ?_; intro _ _) | (refine za ?_; intro _ _) | (refine zs ?_; intro _ _))
    exact TQ_round (k + 1, sw m2 (a + k) (b + k), [(bb, .cells cs2 50)]) ⟨by dsimp only; omega, hk2.trans (sw_keeps _ _ _), by rw [show n - (k + 1) = rr by omega]; exact hT, hr4⟩ (by dsimp only; omega) sb (fun w h => h)
  · rw [show n - k = 0 by omega, swR] at hT
    repeat' (first | refine rn ?_ | (refine zb ?_; intro _ _) | (refine za ?_; intro _ _) | (refine zs ?_; intro _ _))
    exact TQ_end0 Tryz.results228 (fun w' hs => ⟨o, hT ▸ hr2, rfl, hs⟩)
theorem c222 {B : Nat} {w0 : World} {G : Hp} (cmp : Dd → Dd → Int) (kf : FuncId) (cl : List Value) [EntP Tryz.prog kf] (l0 l : List Dd) (ao : Option Addr) (cap : Nat) (ob : Hp) (a m b f : Nat) (hk : Keeps l0 l) (hsm : l0.length ≤ 1000) (ham : a < m) (hmb : m < b) (hb : b ≤ l0.length) (hf : b - a ≤ f) (hrow : Row 50 9 encDd ao cap ob l) (hcmp : CmpG B w0 G (fun x : Dd => .agg (encDd x).toArray) cmp kf cl l0) (w : World) (hs : SH B w0 w (ob ++ G)) :
    Calls Tryz.prog 222 #[.slice ao l0.length cap, .int .i64 a, .int .i64 m, .int .i64 b, .func (.func kf) #[] cl.toArray] w (RetP B w0 (fun _ : Hp => .tuple #[]) (fun o => o ++ G) (fun o => Row 50 9 encDd ao cap o (rot m f (m - a) (b - m) l))) := by
  refine enter (args := [.slice ao l0.length cap, .int .i64 a, .int .i64 m, .int .i64 b, .func (.func kf) #[] cl.toArray]) Tryz.func222 rfl Tryz.ntmps222 rfl hs ?_
  repeat' (first | refine rn ?_ | (refine zb ?_; intro _ _) | (refine za ?_; intro _ _) | (refine zs ?_; intro _ _))
  rw [show ((m : Int) - a) = ((m - a : Nat) : Int) by omega, show ((b : Int) - m) = ((b - m : Nat) : Int) by omega]
  refine TC_loop (σ := Nat × Nat × Nat × List Dd × Hp) (fun q => 0 < q.1 ∧ q.1 ≤ m ∧ 0 < q.2.1 ∧ m + q.2.1 ≤ b ∧ q.1 + q.2.1 ≤ q.2.2.1 ∧ Keeps l0 q.2.2.2.1 ∧ rot m q.2.2.1 q.1 q.2.1 q.2.2.2.1 = rot m f (m - a) (b - m) l ∧ Row 50 9 encDd ao cap q.2.2.2.2 q.2.2.2.1) (fun q => [(0, .slice ao l0.length cap), (2, .int .i64 m), (4, .func (.func kf) #[] cl.toArray), (10, .int .i64 q.1), (11, .int .i64 q.2.1)]) (fun q => q.2.2.2.2 ++ G) (fun q => q.1 + q.2.1) (m - a, b - m, f, l, ob) ⟨by dsimp only; omega, by dsimp only; omega, by dsimp only; omega, by dsimp only; omega, by dsimp only; omega, hk, rfl, hrow⟩ sb (fun w h => h) (fun q hq => ?_)
  obtain ⟨i, j, g, m2, o⟩ := q
  obtain ⟨hi0, him, hj0, hjb, hfu, hk2, hT, hr2⟩ := hq
  dsimp only at hi0 him hj0 hjb hfu hk2 hT hr2 ⊢
  have hml2 := hk2.len
  obtain ⟨g, rfl⟩ : ∃ g', g = g' + 1 := ⟨g - 1, by omega⟩
  rw [rot] at hT
  repeat' (first | refine rn ?_ | (refine zb ?_; intro _ _) | (refine za ?_; intro _ _) | (refine zs ?_; intro _ _))
  refine TC_cond_dec rfl (fun g1 => ?_) (fun g1 => ?_)
  · rw [if_neg (show ¬ i = j by omega)] at hT
    repeat' (first | refine rn ?_ | (refine zb ?_; intro _ _) | (refine za ?_; intro _ _) | (refine zs ?_; intro _ _))
    refine TC_cond_dec rfl (fun g2 => ?_) (fun g2 => ?_)
    · rw [if_pos (show j < i by omega)] at hT
      repeat' (first | refine rn ?_ | (refine zb ?_; intro _ _) | (refine za ?_; intro _ _) | (refine zs ?_; intro _ _))
      rw [show ((m : Int) - i) = ((m - i : Nat) : Int) by omega]
      refine TL_call rfl rfl rfl _ _ _ (fun w h => c228 cmp kf cl l0 _ ao cap _ (m - i) m j hk2 hsm (by omega) (by omega) hr2 hcmp w h) ?_
      intro o3 hr3
      repeat' (first | refine rn ?_ | (refine zb ?_; intro _ _) | (refine za ?_; intro _ _) | (refine zs ?_; intro _ _))
      rw [show ((i : Int) - j) = ((i - j : Nat) : Int) by omega]
      exact TQ_round (i - j, j, g, swR (m - i) m 0 j m2, o3) ⟨by dsimp only; omega, by dsimp only; omega, hj0, hjb, by dsimp only; omega, hk2.trans (swR_keeps _ _ _ _ _), hT, hr3⟩ (by dsimp only; omega) sb (fun w h => h)
    · rw [if_neg (show ¬ j < i by omega)] at hT
      repeat' (first | refine rn ?_ | (refine zb ?_; intro _ _) | (refine za ?_; intro _ _) | (refine zs ?_; intro _ _))
      rw [show ((m : Int) - i) = ((m - i : Nat) : Int) by omega, show ((m : Int) + j - i) = ((m + j - i : Nat) : Int) by omega]
      refine TL_call rfl rfl rfl _ _ _ (fun w h => c228 cmp kf cl l0 _ ao cap _ (m - i) (m + j - i) i hk2 hsm (by omega) (by omega) hr2 hcmp w h) ?_
      intro o3 hr3
      repeat' (first | refine rn ?_ | (refine zb ?_; intro _ _) | (refine za ?_; intro _ _) | (refine zs ?_; intro _ _))
      rw [show ((j : Int) - i) = ((j - i : Nat) : Int) by omega]
      exact TQ_round (i, j - i, g, swR (m - i) (m + j - i) 0 i m2, o3) ⟨hi0, him, by dsimp only; omega, by dsimp only; omega, by dsimp only; omega, hk2.trans (swR_keeps _ _ _ _ _), hT, hr3⟩ (by dsimp only; omega) sb (fun w h => h)
  · rw [if_pos (show i = j by omega)] at hT
    repeat' (first | refine rn ?_ | (refine zb ?_; intro _ _) | (refine za ?_; intro _ _) | (refine zs ?_; intro _ _))
    rw [show ((m : Int) - i) = ((m - i : Nat) : Int) by omega]
    refine TL_call rfl rfl rfl _ _ _ (fun w h => c228 cmp kf cl l0 _ ao cap _ (m - i) m i hk2 hsm (by omega) (by omega) hr2 hcmp w h) ?_
    intro o3 hr3
    repeat' (first | refine rn ?_ | (refine zb ?_; intro _ _) | (refine za ?_; intro _ _) | (refine zs ?_; intro _ _))
    exact TQ_end0 Tryz.results222 (fun w' hs => ⟨o3, hT ▸ hr3, rfl, hs⟩)
theorem c210 {B : Nat} {w0 : World} {G : Hp} (cmp : Dd → Dd → Int) (kf : FuncId) (cl : List Value) [EntP Tryz.prog kf] (l0 : List Dd) (cap : Nat) (hsm : l0.length ≤ 1000) (hcmp : CmpG B w0 G (fun x : Dd => .agg (encDd x).toArray) cmp kf cl l0) : ∀ (f : Nat) (ao : Option Addr) (l : List Dd) (ob : Hp) (a m b : Nat), Keeps l0 l → a < m → m < b → b ≤ l0.length → b - a ≤ f → Row 50 9 encDd ao cap ob l → ∀ (w : World), SH B w0 w (ob ++ G) →
    Calls Tryz.prog 210 #[.slice ao l0.length cap, .int .i64 a, .int .i64 m, .int .i64 b, .func (.func kf) #[] cl.toArray] w (RetP B w0 (fun _ : Hp => .tuple #[]) (fun o => o ++ G) (fun o => Row 50 9 encDd ao cap o (symM (ltC cmp) f a m b l))) := by
  intro f
  induction f with
  | zero => intro ao l ob a m b _ h1 h2 _ h3; omega
  | succ f ih =>
  intro ao l ob a m b hk ham hmb hb hf hrow w hs
  have hml := hk.len
  refine enter (args := [.slice ao l0.length cap, .int .i64 a, .int .i64 m, .int .i64 b, .func (.func kf) #[] cl.toArray]) Tryz.func210 rfl Tryz.ntmps210 rfl hs ?_
  repeat' (first | refine rn ?_ | (refine zb ?_; intro _ _) | (refine za ?_; intro _ _) | (refine zs ?_; intro _ _))
  refine TC_cond_dec rfl (fun c1 => ?_) (fun c1 => ?_)
  · have eT : symM (ltC cmp) (f + 1) a m b l = shU a (bsr (fun h => ltAt (ltC cmp) l h a) b m b - 1 - a) l := by rw [symM, if_pos (by omega)]
    rw [eT]
    obtain ⟨R, hR⟩ : ∃ R, R = bsr (fun h => ltAt (ltC cmp) l h a) b m b := ⟨_, rfl⟩
    have hR1 : m ≤ R := hR ▸ bsr_ge _ _ _ _
    have hR2 : R ≤ b := hR ▸ bsr_le _ _ _ _ (by omega)
    rw [← hR]
    obtain ⟨y, hy⟩ : ∃ y, l[a]? = some y := ⟨_, List.getElem?_eq_getElem (by omega)⟩
    repeat' (first | refine rn ?_ | (refine zb ?_; intro _ _) | (refine za ?_; intro _ _) | (refine zs ?_; intro _ _))
    refine TC_loop (σ := Nat × Nat × Nat) (fun q => m ≤ q.1 ∧ q.1 ≤ q.2.1 ∧ q.2.1 ≤ b ∧ q.2.1 - q.1 ≤ q.2.2 ∧ bsr (fun h => ltAt (ltC cmp) l h a) q.2.2 q.1 q.2.1 = R) (fun q => [(0, .slice ao l0.length cap), (1, .int .i64 a), (2, .int .i64 m), (3, .int .i64 b), (4, .func (.func kf) #[] cl.toArray), (10, .int .i64 q.1), (11, .int .i64 q.2.1)]) (fun _ => ob ++ G) (fun q => q.2.1 - q.1) (m, b, b) ⟨Nat.le_refl _, by dsimp only; omega, Nat.le_refl _, by dsimp only; omega, hR.symm⟩ sb (fun w h => h) (fun q hq => ?_)
    obtain ⟨i, j, g⟩ := q
    obtain ⟨hi1, hi2, hi3, hi4, hi5⟩ := hq
    dsimp only at hi1 hi2 hi3 hi4 hi5 ⊢
    repeat' (first | refine rn ?_ | (refine zb ?_; intro _ _) | (refine za ?_; intro _ _) | (refine zs ?_; intro _ _))
    refine TC_cond_dec rfl (fun g1 => ?_) (fun g1 => ?_)
    · obtain ⟨g, rfl⟩ : ∃ g', g = g' + 1 := ⟨g - 1, by omega⟩
      rw [bsr, if_pos (show i < j by omega)] at hi5
      repeat' (first | (refine TL_conv_same rfl rfl (wrap_u64_nn (by omega) (by omega)) ?_) | (refine TL_conv_same rfl rfl (wrap_i64_nn (by omega) (by omega)) ?_) | (refine TL_half rfl rfl rfl rfl (by omega) ?_) | refine r1 ?_ | (refine zb ?_; intro _ _) | (refine za ?_; intro _ _) | (refine zs ?_; intro _ _))
      obtain ⟨h, hh⟩ : ∃ h, h = (i + j) / 2 := ⟨_, rfl⟩
      rw [show ((i : Int) + j) / 2 = (h : Int) by omega]
      rw [← hh] at hi5
      obtain ⟨x, hx⟩ : ∃ x, l[h]? = some x := ⟨_, List.getElem?_eq_getElem (by omega)⟩
      have hlt := ltAt_eq (ltC cmp) hx hy
      repeat' (first | refine rn ?_ | (refine zb ?_; intro _ _) | (refine za ?_; intro _ _) | (refine zs ?_; intro _ _))
      apply TC_draw 11; kernel_rfl; exact Tryz.mixed
      · iterate 3 (refine' pv ?_; rotate_left)
        (refine' PG.val rfl rfl (by intro _X; refine TL_index (h) rfl rfl rfl (fun w h => hrow.sl h (fun p hp => by repeat (first | exact hp | exact List.mem_append_left _ hp | apply List.mem_append_right | apply List.mem_cons_of_mem))) (by omega) (by omega) (by omega) ?_; exact qe) ?_; rotate_left)
        (refine' PG.val rfl rfl (by intro _X; refine TL_load_eln (u := x) rfl rfl (fun w h => hrow.sl h (fun p hp => by repeat (first | exact hp | exact List.mem_append_left _ hp | apply List.mem_append_right | apply List.mem_cons_of_mem))) hx rfl ?_; exact qe) ?_; rotate_left)
        iterate 2 (refine' pv ?_; rotate_left)
        (refine' PG.val rfl rfl (by intro _X; refine TL_index (a) rfl rfl rfl (fun w h => hrow.sl h (fun p hp => by repeat (first | exact hp | exact List.mem_append_left _ hp | apply List.mem_append_right | apply List.mem_cons_of_mem))) (by omega) (by omega) (by omega) ?_; exact qe) ?_; rotate_left)
        (refine' PG.val rfl rfl (by intro _X; refine TL_load_eln (u := y) rfl rfl (fun w h => hrow.sl h (fun p hp => by repeat (first | exact hp | exact List.mem_append_left _ hp | apply List.mem_append_right | apply List.mem_cons_of_mem))) hy rfl ?_; exact qe) ?_; rotate_left)
        (refine' PG.val rfl rfl (by intro _X; refine TL_callV rfl rfl rfl (fun w h => hcmp x (hk.mem x (List.mem_of_getElem? hx)) y (hk.mem y (List.mem_of_getElem? hy)) _ w (fun p hp => by repeat (first | exact hp | exact List.mem_append_left _ hp | apply List.mem_append_right | apply List.mem_cons_of_mem)) h) ?_; exact qe) ?_; rotate_left)
        (refine' pv ?_; rotate_left)
        exact PG.nil
      change TL _ _ _ _ _ _ _ _ _ _ _
      repeat' (first | refine rn ?_ | (refine zb ?_; intro _ _) | (refine za ?_; intro _ _) | (refine zs ?_; intro _ _))
      refine TC_cond_dec rfl (fun g2 => ?_) (fun g2 => ?_)
      · rw [if_pos (by rw [hlt]; exact decide_eq_true g2)] at hi5
        repeat' (first | refine rn ?_ | (refine zb ?_; intro _ _) | (refine za ?_; intro _ _) | (refine zs ?_; intro _ _))
        exact TQ_round (h + 1, j, g) ⟨by dsimp only; omega, by dsimp only; omega, hi3, by dsimp only; omega, hi5⟩ (by dsimp only; omega) sb (fun w h => h)
      · rw [if_neg (by rw [hlt]; unfold ltC; rw [decide_eq_true_eq]; exact g2)] at hi5
        repeat' (first | refine rn ?_ | (refine zb ?_; intro _ _) | (refine za ?_; intro _ _) | (refine zs ?_; intro _ _))
        exact TQ_round (i, h, g) ⟨hi1, by dsimp only; omega, by dsimp only; omega, by dsimp only; omega, hi5⟩ (by dsimp only; omega) sb (fun w h => h)
    · rw [bsr_done _ _ _ _ (by omega)] at hi5
      subst hi5
      repeat' (first | refine rn ?_ | (refine zb ?_; intro _ _) | (refine za ?_; intro _ _) | (refine zs ?_; intro _ _))
      refine TC_loop (σ := Nat × List Dd × Hp) (fun q => a ≤ q.1 ∧ Keeps l0 q.2.1 ∧ shU q.1 (i - 1 - q.1) q.2.1 = shU a (i - 1 - a) l ∧ Row 50 9 encDd ao cap q.2.2 q.2.1) (fun q => [(0, .slice ao l0.length cap), (1, .int .i64 a), (2, .int .i64 m), (3, .int .i64 b), (4, .func (.func kf) #[] cl.toArray), (10, .int .i64 i), (13, .int .i64 q.1)]) (fun q => q.2.2 ++ G) (fun q => i - q.1) (a, l, ob) ⟨Nat.le_refl _, hk, rfl, hrow⟩ sb (fun w h => h) (fun q hq => ?_)
      obtain ⟨k, m2, o⟩ := q
      obtain ⟨hak, hk2, hT, hr2⟩ := hq
      dsimp only at hak hk2 hT hr2 ⊢
      have hml2 := hk2.len
      repeat' (first | refine rn ?_ | (refine zb ?_; intro _ _) | (refine za ?_; intro _ _) | (refine zs ?_; intro _ _))
      refine TC_cond_dec rfl (fun g2 => ?_) (fun g2 => ?_)
      · obtain ⟨rr, hrr⟩ : ∃ rr, i - 1 - k = rr + 1 := ⟨i - 1 - k - 1, by omega⟩
        rw [hrr, shU] at hT
        obtain ⟨x, hx⟩ : ∃ x, m2[k]? = some x := ⟨_, List.getElem?_eq_getElem (by omega)⟩
        obtain ⟨y, hy⟩ : ∃ y, m2[k + 1]? = some y := ⟨_, List.getElem?_eq_getElem (by omega)⟩
        obtain ⟨bb, cs, cs', rfl, rfl, hput, hr3⟩ := Row.put hr2 (off := 0) (vs := encDd y) (u' := y) hx rfl rfl
        obtain ⟨b', cs1, cs2, e1, e2, hput2, hr4⟩ := hr3.put (off := 0) (i := k + 1) (vs := encDd x) (u := y) (u' := x) (by rw [List.getElem?_set_ne (by omega)]; exact hy) rfl rfl
        cases e1
        cases e2
        have hsl : ∀ (H : Hp) w', (bb, .cells cs 50) ∈ H → SH B w0 w' H → Sl w' 9 encDd (some ⟨bb, 0, none⟩) m2 := fun H w' hm h => Row.sl hr2 h (fun p hp => by rw [List.mem_singleton.1 hp]; exact hm)
        have hsl1 : ∀ (H : Hp) w', (bb, .cells cs' 50) ∈ H → SH B w0 w' H → Sl w' 9 encDd (some ⟨bb, 0, none⟩) (m2.set (k) y) := fun H w' hm h => hr3.sl h (fun p hp => by rw [List.mem_singleton.1 hp]; exact hm)
        have hputa : putN (0 + ((k) * 9 + 0)) (encDd y) cs = some cs' := by rw [Nat.zero_add]; exact hput
        have hputb : putN (0 + ((k + 1) * 9 + 0)) (encDd x) cs' = some cs2 := by rw [Nat.zero_add]; exact hput2
        rw [← sw_set hx hy] at hr4
        repeat' (first | refine rn ?_ | (refine zb ?_; intro _ _) | (refine za ?_; intro _ _) | (refine zs ?_; intro _ _))
        apply TC_draw5 16 15 59 0 [8, 9, 12, 13, 14]; exact rfl; kernel_rfl; exact rfl; exact Tryz.mixed; exact rfl
        · iterate 8 (refine' pv5 ?_; rotate_left)
          (refine' PG5.vale rfl rfl rfl (by rintro  _X; refine TL_index (k + 1) rfl rfl rfl (fun w h => hsl _ w mm h) (by omega) (by omega) (by omega) ?_; exact qe) ?_; rotate_left)
          (refine' PG5.vale rfl rfl rfl (by rintro  _X; refine TL_load_eln (u := y) rfl rfl (fun w h => hsl _ w mm h) hy rfl ?_; exact qe) ?_; rotate_left)
          iterate 2 (refine' pv5 ?_; rotate_left)
          (refine' PG5.vale rfl rfl rfl (by rintro  _X; refine TL_index (k) rfl rfl rfl (fun w h => hsl _ w mm h) (by omega) (by omega) (by omega) ?_; exact qe) ?_; rotate_left)
          (refine' PG5.vale rfl rfl rfl (by rintro  _X; refine TL_load_eln (u := x) rfl rfl (fun w h => hsl _ w mm h) hx rfl ?_; exact qe) ?_; rotate_left)
          (refine' PG5.vale rfl rfl rfl (by rintro  _X; refine TL_index (k) rfl rfl rfl (fun w h => hsl _ w mm h) (by omega) (by omega) (by omega) ?_; exact qe) ?_; rotate_left)
          (refine' PG5.sto ([(bb, .cells cs' 50)]) rfl rfl (by intro _X; refine TL_store (b := bb) (cs := cs) (cs' := cs') (T := 50) rfl rfl rfl rfl rfl up hputa ?_; exact TL_nil (TQ_QD (fun _ h => h))) ?_; rotate_left)
          exact PG5.nil
        rintro _ _ rfl
        change TL _ _ _ _ _ _ _ _ _ _ _
        repeat' (first | refine rn ?_ | (refine zb ?_; intro _ _) | (refine za ?_; intro _ _) | (refine zs ?_; intro _ _))
        refine TL_index (k + 1) rfl rfl rfl (fun w h => hsl1 _ w (List.mem_append_left _ (List.Mem.head _)) h) (by omega) (by rw [List.length_set]; omega) (by rw [List.length_set]; omega) ?_
        refine TL_store (b := bb) (cs := cs') (cs' := cs2) (T := 50) rfl rfl rfl rfl rfl (by exact Upd.head) hputb ?_
        repeat' (first | refine rn ?_ | (refine zb ?_; intro _ _) | (refine za ?_; intro _ _) | (refine zs ?_; intro _ _))
        exact TQ_round (k + 1, sw m2 k (k + 1), [(bb, .cells cs2 50)]) ⟨by dsimp only; omega, hk2.trans (sw_keeps _ _ _), by rw [show i - 1 - (k + 1) = rr by omega]; exact hT, hr4⟩ (by dsimp only; omega) sb (fun w h => h)
      · rw [show i - 1 - k = 0 by omega, shU] at hT
        repeat' (first | refine rn ?_ | (refine zb ?_; intro _ _) | (refine za ?_; intro _ _) | (refine zs ?_; intro _ _))
        exact TQ_ret0 Tryz.results210 (fun w' hs => ⟨o, hT ▸ hr2, rfl, hs⟩)
  repeat' (first | refine rn ?_ | (refine zb ?_; intro _ _) | (refine za ?_; intro _ _) | (refine zs ?_; intro _ _))
  refine TC_cond_dec rfl (fun c2 => ?_) (fun c2 => ?_)
  · have eT : symM (ltC cmp) (f + 1) a m b l = shD m (m - bsr (fun h => !ltAt (ltC cmp) l m h) b a m) l := by rw [symM, if_neg (by omega), if_pos (by omega)]
    rw [eT]
    obtain ⟨R, hR⟩ : ∃ R, R = bsr (fun h => !ltAt (ltC cmp) l m h) b a m := ⟨_, rfl⟩
    have hR1 : a ≤ R := hR ▸ bsr_ge _ _ _ _
    have hR2 : R ≤ m := hR ▸ bsr_le _ _ _ _ (by omega)
    rw [← hR]
    obtain ⟨x, hx⟩ : ∃ x, l[m]? = some x := ⟨_, List.getElem?_eq_getElem (by omega)⟩
    repeat' (first | refine rn ?_ | (refine zb ?_; intro _ _) | (refine za ?_; intro _ _) | (refine zs ?_; intro _ _))
    refine TC_loop (σ := Nat × Nat × Nat) (fun q => a ≤ q.1 ∧ q.1 ≤ q.2.1 ∧ q.2.1 ≤ m ∧ q.2.1 - q.1 ≤ q.2.2 ∧ bsr (fun h => !ltAt (ltC cmp) l m h) q.2.2 q.1 q.2.1 = R) (fun q => [(0, .slice ao l0.length cap), (1, .int .i64 a), (2, .int .i64 m), (3, .int .i64 b), (4, .func (.func kf) #[] cl.toArray), (14, .int .i64 q.1), (15, .int .i64 q.2.1)]) (fun _ => ob ++ G) (fun q => q.2.1 - q.1) (a, m, b) ⟨Nat.le_refl _, by dsimp only; omega, Nat.le_refl _, by dsimp only; omega, hR.symm⟩ sb (fun w h => h) (fun q hq => ?_)
    obtain ⟨i, j, g⟩ := q
    obtain ⟨hi1, hi2, hi3, hi4, hi5⟩ := hq
    dsimp only at hi1 hi2 hi3 hi4 hi5 ⊢
    repeat' (first | refine rn ?_ | (refine zb ?_; intro _ _) | (refine za ?_; intro _ _) | (refine zs ?_; intro _ _))
    refine TC_cond_dec rfl (fun g1 => ?_) (fun g1 => ?_)
    · obtain ⟨g, rfl⟩ : ∃ g', g = g' + 1 := ⟨g - 1, by omega⟩
      rw [bsr, if_pos (show i < j by omega)] at hi5
      repeat' (first | (refine TL_conv_same rfl rfl (wrap_u64_nn (by omega) (by omega)) ?_) | (refine TL_conv_same rfl rfl (wrap_i64_nn (by omega) (by omega)) ?_) | (refine TL_half rfl rfl rfl rfl (by omega) ?_) | refine r1 ?_ | (refine zb ?_; intro _ _) | (refine za ?_; intro _ _) | (refine zs ?_; intro _ _))
      obtain ⟨h, hh⟩ : ∃ h, h = (i + j) / 2 := ⟨_, rfl⟩
      rw [show ((i : Int) + j) / 2 = (h : Int) by omega]
      rw [← hh] at hi5
      obtain ⟨y, hy⟩ : ∃ y, l[h]? = some y := ⟨_, List.getElem?_eq_getElem (by omega)⟩
      have hlt := ltAt_eq (ltC cmp) hx hy
      repeat' (first | refine rn ?_ | (refine zb ?_; intro _ _) | (refine za ?_; intro _ _) | (refine zs ?_; intro _ _))
      apply TC_draw 12; kernel_rfl; exact Tryz.mixed
      · iterate 3 (refine' pv ?_; rotate_left)
        (refine' PG.val rfl rfl (by intro _X; refine TL_index (m) rfl rfl rfl (fun w h => hrow.sl h (fun p hp => by repeat (first | exact hp | exact List.mem_append_left _ hp | apply List.mem_append_right | apply List.mem_cons_of_mem))) (by omega) (by omega) (by omega) ?_; exact qe) ?_; rotate_left)
        (refine' PG.val rfl rfl (by intro _X; refine TL_load_eln (u := x) rfl rfl (fun w h => hrow.sl h (fun p hp => by repeat (first | exact hp | exact List.mem_append_left _ hp | apply List.mem_append_right | apply List.mem_cons_of_mem))) hx rfl ?_; exact qe) ?_; rotate_left)
        iterate 2 (refine' pv ?_; rotate_left)
        (refine' PG.val rfl rfl (by intro _X; refine TL_index (h) rfl rfl rfl (fun w h => hrow.sl h (fun p hp => by repeat (first | exact hp | exact List.mem_append_left _ hp | apply List.mem_append_right | apply List.mem_cons_of_mem))) (by omega) (by omega) (by omega) ?_; exact qe) ?_; rotate_left)
        (refine' PG.val rfl rfl (by intro _X; refine TL_load_eln (u := y) rfl rfl (fun w h => hrow.sl h (fun p hp => by repeat (first | exact hp | exact List.mem_append_left _ hp | apply List.mem_append_right | apply List.mem_cons_of_mem))) hy rfl ?_; exact qe) ?_; rotate_left)
        (refine' PG.val rfl rfl (by intro _X; refine TL_callV rfl rfl rfl (fun w h => hcmp x (hk.mem x (List.mem_of_getElem? hx)) y (hk.mem y (List.mem_of_getElem? hy)) _ w (fun p hp => by repeat (first | exact hp | exact List.mem_append_left _ hp | apply List.mem_append_right | apply List.mem_cons_of_mem)) h) ?_; exact qe) ?_; rotate_left)
        iterate 2 (refine' pv ?_; rotate_left)
        exact PG.nil
      change TL _ _ _ _ _ _ _ _ _ _ _
      repeat' (first | refine rn ?_ | (refine zb ?_; intro _ _) | (refine za ?_; intro _ _) | (refine zs ?_; intro _ _))
      refine TC_cond_dec rfl (fun g2 => ?_) (fun g2 => ?_)
      · rw [if_pos (by rw [hlt]; simp [ltC]; omega)] at hi5
        repeat' (first | refine rn ?_ | (refine zb ?_; intro _ _) | (refine za ?_; intro _ _) | (refine zs ?_; intro _ _))
        exact TQ_round (h + 1, j, g) ⟨by dsimp only; omega, by dsimp only; omega, hi3, by dsimp only; omega, hi5⟩ (by dsimp only; omega) sb (fun w h => h)
      · rw [if_neg (by rw [hlt]; simp [ltC]; omega)] at hi5
        repeat' (first | refine rn ?_ | (refine zb ?_; intro _ _) | (refine za ?_; intro _ _) | (refine zs ?_; intro _ _))
        exact TQ_round (i, h, g) ⟨hi1, by dsimp only; omega, by dsimp only; omega, by dsimp only; omega, hi5⟩ (by dsimp only; omega) sb (fun w h => h)
    · rw [bsr_done _ _ _ _ (by omega)] at hi5
      subst hi5
      repeat' (first | refine rn ?_ | (refine zb ?_; intro _ _) | (refine za ?_; intro _ _) | (refine zs ?_; intro _ _))
      refine TC_loop (σ := Nat × List Dd × Hp) (fun q => i ≤ q.1 ∧ q.1 ≤ m ∧ Keeps l0 q.2.1 ∧ shD q.1 (q.1 - i) q.2.1 = shD m (m - i) l ∧ Row 50 9 encDd ao cap q.2.2 q.2.1) (fun q => [(0, .slice ao l0.length cap), (1, .int .i64 a), (2, .int .i64 m), (3, .int .i64 b), (4, .func (.func kf) #[] cl.toArray), (14, .int .i64 i), (17, .int .i64 q.1)]) (fun q => q.2.2 ++ G) (fun q => q.1) (m, l, ob) ⟨by dsimp only; omega, Nat.le_refl _, hk, rfl, hrow⟩ sb (fun w h => h) (fun q hq => ?_)
      obtain ⟨k, m2, o⟩ := q
      obtain ⟨hak, hkm, hk2, hT, hr2⟩ := hq
      dsimp only at hak hkm hk2 hT hr2 ⊢
      have hml2 := hk2.len
      repeat' (first | refine rn ?_ | (refine zb ?_; intro _ _) | (refine za ?_; intro _ _) | (refine zs ?_; intro _ _))
      refine TC_cond_dec rfl (fun g2 => ?_) (fun g2 => ?_)
      · obtain ⟨k, rfl⟩ : ∃ k', k = k' + 1 := ⟨k - 1, by omega⟩
        obtain ⟨rr, hrr⟩ : ∃ rr, k + 1 - i = rr + 1 := ⟨k - i, by omega⟩
        rw [hrr, shD, Nat.add_sub_cancel] at hT
        obtain ⟨x, hx⟩ : ∃ x, m2[k + 1]? = some x := ⟨_, List.getElem?_eq_getElem (by omega)⟩
        obtain ⟨y, hy⟩ : ∃ y, m2[k]? = some y := ⟨_, List.getElem?_eq_getElem (by omega)⟩
        obtain ⟨bb, cs, cs', rfl, rfl, hput, hr3⟩ := Row.put hr2 (off := 0) (vs := encDd y) (u' := y) hx rfl rfl
        obtain ⟨b', cs1, cs2, e1, e2, hput2, hr4⟩ := hr3.put (off := 0) (i := k) (vs := encDd x) (u := y) (u' := x) (by rw [List.getElem?_set_ne (by omega)]; exact hy) rfl rfl
        cases e1
        cases e2
        have hsl : ∀ (H : Hp) w', (bb, .cells cs 50) ∈ H → SH B w0 w' H → Sl w' 9 encDd (some ⟨bb, 0, none⟩) m2 := fun H w' hm h => Row.sl hr2 h (fun p hp => by rw [List.mem_singleton.1 hp]; exact hm)
        have hsl1 : ∀ (H : Hp) w', (bb, .cells cs' 50) ∈ H → SH B w0 w' H → Sl w' 9 encDd (some ⟨bb, 0, none⟩) (m2.set (k + 1) y) := fun H w' hm h => hr3.sl h (fun p hp => by rw [List.mem_singleton.1 hp]; exact hm)
        have hputa : putN (0 + ((k + 1) * 9 + 0)) (encDd y) cs = some cs' := by rw [Nat.zero_add]; exact hput
        have hputb : putN (0 + ((k) * 9 + 0)) (encDd x) cs' = some cs2 := by rw [Nat.zero_add]; exact hput2
        rw [← sw_set hx hy] at hr4
        repeat' (first | refine rn ?_ | (refine zb ?_; intro _ _) | (refine za ?_; intro _ _) | (refine zs ?_; intro _ _))
        apply TC_draw5 16 15 111 0 [8, 9, 12, 13, 14]; exact rfl; kernel_rfl; exact rfl; exact Tryz.mixed; exact rfl
        · iterate 8 (refine' pv5 ?_; rotate_left)
          (refine' PG5.vale rfl rfl rfl (by rintro  _X; refine TL_index (k) rfl rfl rfl (fun w h => hsl _ w mm h) (by omega) (by omega) (by omega) ?_; exact qe) ?_; rotate_left)
          (refine' PG5.vale rfl rfl rfl (by rintro  _X; refine TL_load_eln (u := y) rfl rfl (fun w h => hsl _ w mm h) hy rfl ?_; exact qe) ?_; rotate_left)
          iterate 2 (refine' pv5 ?_; rotate_left)
          (refine' PG5.vale rfl rfl rfl (by rintro  _X; refine TL_index (k + 1) rfl rfl rfl (fun w h => hsl _ w mm h) (by omega) (by omega) (by omega) ?_; exact qe) ?_; rotate_left)
          (refine' PG5.vale rfl rfl rfl (by rintro  _X; refine TL_load_eln (u := x) rfl rfl (fun w h => hsl _ w mm h) hx rfl ?_; exact qe) ?_; rotate_left)
          (refine' PG5.vale rfl rfl rfl (by rintro  _X; refine TL_index (k + 1) rfl rfl rfl (fun w h => hsl _ w mm h) (by omega) (by omega) (by omega) ?_; exact qe) ?_; rotate_left)
          (refine' PG5.sto ([(bb, .cells cs' 50)]) rfl rfl (by intro _X; refine TL_store (b := bb) (cs := cs) (cs' := cs') (T := 50) rfl rfl rfl rfl rfl up hputa ?_; exact TL_nil (TQ_QD (fun _ h => h))) ?_; rotate_left)
          exact PG5.nil
        rintro _ _ rfl
        change TL _ _ _ _ _ _ _ _ _ _ _
        repeat' (first | refine rn ?_ | (refine zb ?_; intro _ _) | (refine za ?_; intro _ _) | (refine zs ?_; intro _ _))
        refine TL_index (k) rfl rfl rfl (fun w h => hsl1 _ w (List.mem_append_left _ (List.Mem.head _)) h) (by omega) (by rw [List.length_set]; omega) (by rw [List.length_set]; omega) ?_
        refine TL_store (b := bb) (cs := cs') (cs' := cs2) (T := 50) rfl rfl rfl rfl rfl (by exact Upd.head) hputb ?_
        repeat' (first | refine rn ?_ | (refine zb ?_; intro _ _) | (refine za ?_; intro _ _) | (refine zs ?_; intro _ _))
        rw [show (((k + 1 : Nat) : Int) - 1) = (k : Int) by omega]
        exact TQ_round (k, sw m2 (k + 1) k, [(bb, .cells cs2 50)]) ⟨by dsimp only; omega, by dsimp only; omega, hk2.trans (sw_keeps _ _ _), by rw [show k - i = rr by omega]; exact hT, hr4⟩ (by dsimp only; omega) sb (fun w h => h)
      · rw [show k - i = 0 by omega, shD] at hT
        repeat' (first | refine rn ?_ | (refine zb ?_; intro _ _) | (refine za ?_; intro _ _) | (refine zs ?_; intro _ _))
        exact TQ_ret0 Tryz.results210 (fun w' hs => ⟨o, hT ▸ hr2, rfl, hs⟩)
  obtain ⟨M, hM⟩ : ∃ M, M = (a + b) / 2 := ⟨_, rfl⟩
  obtain ⟨S, hS⟩ : ∃ S, S = smS (ltC cmp) l a m b := ⟨_, rfl⟩
  have eT : symM (ltC cmp) (f + 1) a m b l = (if M < M + m - S ∧ M + m - S < b then symM (ltC cmp) f M (M + m - S) b (if a < S ∧ S < M then symM (ltC cmp) f a S M (if S < m ∧ m < M + m - S then rot m (M + m - S - S) (m - S) (M + m - S - m) l else l) else (if S < m ∧ m < M + m - S then rot m (M + m - S - S) (m - S) (M + m - S - m) l else l)) else (if a < S ∧ S < M then symM (ltC cmp) f a S M (if S < m ∧ m < M + m - S then rot m (M + m - S - S) (m - S) (M + m - S - m) l else l) else (if S < m ∧ m < M + m - S then rot m (M + m - S - S) (m - S) (M + m - S - m) l else l))) := by
    rw [hS, hM, symM, if_neg (by omega), if_neg (by omega)]
  rw [eT]
  unfold smS at hS
  rw [← hM] at hS
  repeat' (first | (refine TL_conv_same rfl rfl (wrap_u64_nn (by omega) (by omega)) ?_) | (refine TL_conv_same rfl rfl (wrap_i64_nn (by omega) (by omega)) ?_) | (refine TL_half rfl rfl rfl rfl (by omega) ?_) | refine r1 ?_ | (refine zb ?_; intro _ _) | (refine za ?_; intro _ _) | (refine zs ?_; intro _ _))
  rw [show ((a : Int) + b) / 2 = (M : Int) by omega]
  repeat' (first | refine rn ?_ | (refine zb ?_; intro _ _) | (refine za ?_; intro _ _) | (refine zs ?_; intro _ _))
  obtain ⟨s0, hs0⟩ : ∃ s0, s0 = (if M < m then M + m - b else a) := ⟨_, rfl⟩
  obtain ⟨r0, hr0⟩ : ∃ r0, r0 = (if M < m then M else m) := ⟨_, rfl⟩
  rw [← hs0, ← hr0] at hS
  have hsr : s0 ≤ r0 ∧ a ≤ s0 ∧ r0 ≤ m ∧ r0 ≤ M ∧ r0 - s0 ≤ b ∧ M + m - s0 ≤ b := by
    rw [hs0, hr0]
    split <;> omega
  have hS1 : s0 ≤ S := hS ▸ bsr_ge _ _ _ _
  have hS2 : S ≤ r0 := hS ▸ bsr_le _ _ _ _ hsr.1
  refine TC_join (σ := Unit) (fun _ => True) (fun _ => [(0, .slice ao l0.length cap), (1, .int .i64 a), (2, .int .i64 m), (3, .int .i64 b), (4, .func (.func kf) #[] cl.toArray), (18, .int .i64 M), (19, .int .i64 ((M + m : Nat) : Int)), (20, .int .i64 s0), (21, .int .i64 r0)]) (fun _ => ob ++ G) ?_ (fun _ _ => ?_)
  · refine TC_cond_dec rfl (fun g1 => ?_) (fun g1 => ?_)
    · rw [if_pos (show M < m by omega)] at hs0 hr0
      repeat' (first | refine rn ?_ | (refine zb ?_; intro _ _) | (refine za ?_; intro _ _) | (refine zs ?_; intro _ _))
      rw [show ((M : Int) + m - b) = (s0 : Int) by omega]
      repeat' (first | refine rn ?_ | (refine zb ?_; intro _ _) | (refine za ?_; intro _ _) | (refine zs ?_; intro _ _))
      refine TQ_mid () trivial ?_ (fun w h => h)
      rw [hr0]
      exact sb
    · rw [if_neg (show ¬ M < m by omega)] at hs0 hr0
      repeat' (first | refine rn ?_ | (refine zb ?_; intro _ _) | (refine za ?_; intro _ _) | (refine zs ?_; intro _ _))
      refine TQ_mid () trivial ?_ (fun w h => h)
      rw [hs0, hr0]
      exact sb
  repeat' (first | refine rn ?_ | (refine zb ?_; intro _ _) | (refine za ?_; intro _ _) | (refine zs ?_; intro _ _))
  refine TC_loop (σ := Nat × Nat × Nat) (fun q => s0 ≤ q.1 ∧ q.1 ≤ q.2.1 ∧ q.2.1 ≤ r0 ∧ q.2.1 - q.1 ≤ q.2.2 ∧ bsr (fun c => !ltAt (ltC cmp) l (M + m - 1 - c) c) q.2.2 q.1 q.2.1 = S) (fun q => [(0, .slice ao l0.length cap), (1, .int .i64 a), (2, .int .i64 m), (3, .int .i64 b), (4, .func (.func kf) #[] cl.toArray), (18, .int .i64 M), (19, .int .i64 ((M + m : Nat) : Int)), (22, .int .i64 (((M + m : Nat) : Int) - 1)), (20, .int .i64 q.1), (21, .int .i64 q.2.1)]) (fun _ => ob ++ G) (fun q => q.2.1 - q.1) (s0, r0, b) ⟨Nat.le_refl _, by dsimp only; omega, Nat.le_refl _, by dsimp only; omega, hS.symm⟩ sb (fun w h => h) (fun q hq => ?_)
  obtain ⟨i, j, g⟩ := q
  obtain ⟨hi1, hi2, hi3, hi4, hi5⟩ := hq
  dsimp only at hi1 hi2 hi3 hi4 hi5 ⊢
  repeat' (first | refine rn ?_ | (refine zb ?_; intro _ _) | (refine za ?_; intro _ _) | (refine zs ?_; intro _ _))
  refine TC_cond_dec rfl (fun g1 => ?_) (fun g1 => ?_)
  · obtain ⟨g, rfl⟩ : ∃ g', g = g' + 1 := ⟨g - 1, by omega⟩
    rw [bsr, if_pos (show i < j by omega)] at hi5
    repeat' (first | (refine TL_conv_same rfl rfl (wrap_u64_nn (by omega) (by omega)) ?_) | (refine TL_conv_same rfl rfl (wrap_i64_nn (by omega) (by omega)) ?_) | (refine TL_half rfl rfl rfl rfl (by omega) ?_) | refine r1 ?_ | (refine zb ?_; intro _ _) | (refine za ?_; intro _ _) | (refine zs ?_; intro _ _))
    obtain ⟨h, hh⟩ : ∃ h, h = (i + j) / 2 := ⟨_, rfl⟩
    rw [show ((i : Int) + j) / 2 = (h : Int) by omega]
    rw [← hh] at hi5
    obtain ⟨x, hx⟩ : ∃ x, l[M + m - 1 - h]? = some x := ⟨_, List.getElem?_eq_getElem (by omega)⟩
    obtain ⟨y, hy⟩ : ∃ y, l[h]? = some y := ⟨_, List.getElem?_eq_getElem (by omega)⟩
    have hlt := ltAt_eq (ltC cmp) hx hy
    repeat' (first | refine rn ?_ | (refine zb ?_; intro _ _) | (refine za ?_; intro _ _) | (refine zs ?_; intro _ _))
    apply TC_draw 14; kernel_rfl; exact Tryz.mixed
    · iterate 5 (refine' pv ?_; rotate_left)
      (refine' PG.val rfl rfl (by intro _X; refine TL_index (M + m - 1 - h) rfl rfl rfl (fun w h => hrow.sl h (fun p hp => by repeat (first | exact hp | exact List.mem_append_left _ hp | apply List.mem_append_right | apply List.mem_cons_of_mem))) (by omega) (by omega) (by omega) ?_; exact qe) ?_; rotate_left)
      (refine' PG.val rfl rfl (by intro _X; refine TL_load_eln (u := x) rfl rfl (fun w h => hrow.sl h (fun p hp => by repeat (first | exact hp | exact List.mem_append_left _ hp | apply List.mem_append_right | apply List.mem_cons_of_mem))) hx rfl ?_; exact qe) ?_; rotate_left)
      iterate 2 (refine' pv ?_; rotate_left)
      (refine' PG.val rfl rfl (by intro _X; refine TL_index (h) rfl rfl rfl (fun w h => hrow.sl h (fun p hp => by repeat (first | exact hp | exact List.mem_append_left _ hp | apply List.mem_append_right | apply List.mem_cons_of_mem))) (by omega) (by omega) (by omega) ?_; exact qe) ?_; rotate_left)
      (refine' PG.val rfl rfl (by intro _X; refine TL_load_eln (u := y) rfl rfl (fun w h => hrow.sl h (fun p hp => by repeat (first | exact hp | exact List.mem_append_left _ hp | apply List.mem_append_right | apply List.mem_cons_of_mem))) hy rfl ?_; exact qe) ?_; rotate_left)
      (refine' PG.val rfl rfl (by intro _X; refine TL_callV rfl rfl rfl (fun w h => hcmp x (hk.mem x (List.mem_of_getElem? hx)) y (hk.mem y (List.mem_of_getElem? hy)) _ w (fun p hp => by repeat (first | exact hp | exact List.mem_append_left _ hp | apply List.mem_append_right | apply List.mem_cons_of_mem)) h) ?_; exact qe) ?_; rotate_left)
      iterate 2 (refine' pv ?_; rotate_left)
      exact PG.nil
    change TL _ _ _ _ _ _ _ _ _ _ _
    repeat' (first | refine rn ?_ | (refine zb ?_; intro _ _) | (refine za ?_; intro _ _) | (refine zs ?_; intro _ _))
    refine TC_cond_dec rfl (fun g2 => ?_) (fun g2 => ?_)
    · rw [if_pos (by rw [hlt]; simp [ltC]; omega)] at hi5
      repeat' (first | refine rn ?_ | (refine zb ?_; intro _ _) | (refine za ?_; intro _ _) | (refine zs ?_; intro _ _))
      exact TQ_round (h + 1, j, g) ⟨by dsimp only; omega, by dsimp only; omega, hi3, by dsimp only; omega, hi5⟩ (by dsimp only; omega) sb (fun w h => h)
    · rw [if_neg (by rw [hlt]; simp [ltC]; omega)] at hi5
      repeat' (first | refine rn ?_ | (refine zb ?_; intro _ _) | (refine za ?_; intro _ _) | (refine zs ?_; intro _ _))
      exact TQ_round (i, h, g) ⟨hi1, by dsimp only; omega, by dsimp only; omega, by dsimp only; omega, hi5⟩ (by dsimp only; omega) sb (fun w h => h)
  · rw [bsr_done _ _ _ _ (by omega)] at hi5
    subst hi5
    repeat' (first | refine rn ?_ | (refine zb ?_; intro _ _) | (refine za ?_; intro _ _) | (refine zs ?_; intro _ _))
    rw [show (((M + m : Nat) : Int) - i) = ((M + m - i : Nat) : Int) by omega]
    obtain ⟨L1, hL1⟩ : ∃ L1, L1 = (if i < m ∧ m < M + m - i then rot m (M + m - i - i) (m - i) (M + m - i - m) l else l) := ⟨_, rfl⟩
    have hkL1 : Keeps l0 L1 := by
      rw [hL1]
      split
      · exact hk.trans (rot_keeps _ _ _ _ _)
      · exact hk
    rw [← hL1]
    obtain ⟨L2, hL2⟩ : ∃ L2, L2 = (if a < i ∧ i < M then symM (ltC cmp) f a i M L1 else L1) := ⟨_, rfl⟩
    have hkL2 : Keeps l0 L2 := by
      rw [hL2]
      split
      · exact hkL1.trans (symM_keeps _ _ _ _ _ _)
      · exact hkL1
    rw [← hL2]
    repeat' (first | refine rn ?_ | (refine zb ?_; intro _ _) | (refine za ?_; intro _ _) | (refine zs ?_; intro _ _))
    refine TL_join (σ := Bool) (fun q => q = true ↔ (i < m ∧ m < M + m - i)) (fun q => [(0, .slice ao l0.length cap), (1, .int .i64 a), (2, .int .i64 m), (3, .int .i64 b), (4, .func (.func kf) #[] cl.toArray), (18, .int .i64 M), (20, .int .i64 i), (24, .int .i64 ((M + m - i : Nat) : Int)), (185, .bool q)]) (fun _ => ob ++ G) ?_ (fun q hq => ?_)
    · refine TL_gsplit_dec rfl rfl (fun p1 => ?_) (fun p1 => ?_)
      · repeat' (first | refine rn ?_ | (refine zb ?_; intro _ _) | (refine za ?_; intro _ _) | (refine zs ?_; intro _ _))
        refine TQ_mid _ ?_ sb (fun w h => h)
        rw [decide_eq_true_eq]; omega
      · repeat' (first | refine rn ?_ | (refine zb ?_; intro _ _) | (refine za ?_; intro _ _) | (refine zs ?_; intro _ _))
        refine TQ_mid false ?_ sb (fun w h => h)
        refine ⟨fun h => (by cases h), fun h => (by omega)⟩
    repeat' (first | refine rn ?_ | (refine zb ?_; intro _ _) | (refine za ?_; intro _ _) | (refine zs ?_; intro _ _))
    refine TC_join (σ := Hp) (fun o => Row 50 9 encDd ao cap o L1) (fun _ => [(0, .slice ao l0.length cap), (1, .int .i64 a), (2, .int .i64 m), (3, .int .i64 b), (4, .func (.func kf) #[] cl.toArray), (18, .int .i64 M), (20, .int .i64 i), (24, .int .i64 ((M + m - i : Nat) : Int))]) (fun o => o ++ G) ?_ (fun o1 hr1 => ?_)
    · cases q with
      | true =>
        have hP := hq.1 rfl
        rw [hL1, if_pos hP]
        repeat' (first | refine rn ?_ | (refine zb ?_; intro _ _) | (refine za ?_; intro _ _) | (refine zs ?_; intro _ _))
        refine TL_call rfl rfl rfl _ _ _ (fun w h => c222 cmp kf cl l0 _ ao cap _ i m (M + m - i) (M + m - i - i) hk hsm (by omega) (by omega) (by omega) (Nat.le_refl _) hrow hcmp w h) ?_
        intro o3 hr3
        repeat' (first | refine rn ?_ | (refine zb ?_; intro _ _) | (refine za ?_; intro _ _) | (refine zs ?_; intro _ _))
        exact TQ_mid o3 hr3 sb (fun w h => h)
      | false =>
        have hP : ¬ (i < m ∧ m < M + m - i) := fun h => by cases hq.2 h
        rw [hL1, if_neg hP]
        repeat' (first | refine rn ?_ | (refine zb ?_; intro _ _) | (refine za ?_; intro _ _) | (refine zs ?_; intro _ _))
        exact TQ_mid ob hrow sb (fun w h => h)
    repeat' (first | refine rn ?_ | (refine zb ?_; intro _ _) | (refine za ?_; intro _ _) | (refine zs ?_; intro _ _))
    refine TL_join (σ := Bool) (fun q => q = true ↔ (a < i ∧ i < M)) (fun q => [(0, .slice ao l0.length cap), (1, .int .i64 a), (2, .int .i64 m), (3, .int .i64 b), (4, .func (.func kf) #[] cl.toArray), (18, .int .i64 M), (20, .int .i64 i), (24, .int .i64 ((M + m - i : Nat) : Int)), (199, .bool q)]) (fun _ => o1 ++ G) ?_ (fun q hq => ?_)
    · refine TL_gsplit_dec rfl rfl (fun p1 => ?_) (fun p1 => ?_)
      · repeat' (first | refine rn ?_ | (refine zb ?_; intro _ _) | (refine za ?_; intro _ _) | (refine zs ?_; intro _ _))
        refine TQ_mid _ ?_ sb (fun w h => h)
        rw [decide_eq_true_eq]; omega
      · repeat' (first | refine rn ?_ | (refine zb ?_; intro _ _) | (refine za ?_; intro _ _) | (refine zs ?_; intro _ _))
        refine TQ_mid false ?_ sb (fun w h => h)
        refine ⟨fun h => (by cases h), fun h => (by omega)⟩
    repeat' (first | refine rn ?_ | (refine zb ?_; intro _ _) | (refine za ?_; intro _ _) | (refine zs ?_; intro _ _))
    refine TC_join (σ := Hp) (fun o => Row 50 9 encDd ao cap o L2) (fun _ => [(0, .slice ao l0.length cap), (1, .int .i64 a), (2, .int .i64 m), (3, .int .i64 b), (4, .func (.func kf) #[] cl.toArray), (18, .int .i64 M), (20, .int .i64 i), (24, .int .i64 ((M + m - i : Nat) : Int))]) (fun o => o ++ G) ?_ (fun o2 hr2 => ?_)
    · cases q with
      | true =>
        have hP := hq.1 rfl
        rw [hL2, if_pos hP]
        repeat' (first | refine rn ?_ | (refine zb ?_; intro _ _) | (refine za ?_; intro _ _) | (refine zs ?_; intro _ _))
        refine TL_call rfl rfl rfl _ _ _ (fun w h => ih ao L1 _ a i M hkL1 (by omega) (by omega) (by omega) (by omega) hr1 w h) ?_
        intro o3 hr3
        repeat' (first | refine rn ?_ | (refine zb ?_; intro _ _) | (refine za ?_; intro _ _) | (refine zs ?_; intro _ _))
        exact TQ_mid o3 hr3 sb (fun w h => h)
      | false =>
        have hP : ¬ (a < i ∧ i < M) := fun h => by cases hq.2 h
        rw [hL2, if_neg hP]
        repeat' (first | refine rn ?_ | (refine zb ?_; intro _ _) | (refine za ?_; intro _ _) | (refine zs ?_; intro _ _))
        exact TQ_mid o1 hr1 sb (fun w h => h)
    repeat' (first | refine rn ?_ | (refine zb ?_; intro _ _) | (refine za ?_; intro _ _) | (refine zs ?_; intro _ _))
    refine TL_join (σ := Bool) (fun q => q = true ↔ (M < M + m - i ∧ M + m - i < b)) (fun q => [(0, .slice ao l0.length cap), (1, .int .i64 a), (2, .int .i64 m), (3, .int .i64 b), (4, .func (.func kf) #[] cl.toArray), (18, .int .i64 M), (20, .int .i64 i), (24, .int .i64 ((M + m - i : Nat) : Int)), (213, .bool q)]) (fun _ => o2 ++ G) ?_ (fun q hq => ?_)
    · refine TL_gsplit_dec rfl rfl (fun p1 => ?_) (fun p1 => ?_)
      · repeat' (first | refine rn ?_ | (refine zb ?_; intro _ _) | (refine za ?_; intro _ _) | (refine zs ?_; intro _ _))
        refine TQ_mid _ ?_ sb (fun w h => h)
        rw [decide_eq_true_eq]; omega
      · repeat' (first | refine rn ?_ | (refine zb ?_; intro _ _) | (refine za ?_; intro _ _) | (refine zs ?_; intro _ _))
        refine TQ_mid false ?_ sb (fun w h => h)
        refine ⟨fun h => (by cases h), fun h => (by omega)⟩
    repeat' (first | refine rn ?_ | (refine zb ?_; intro _ _) | (refine za ?_; intro _ _) | (refine zs ?_; intro _ _))
    cases q with
    | true =>
      have hP := hq.1 rfl
      rw [if_pos hP]
      repeat' (first | refine rn ?_ | (refine zb ?_; intro _ _) | (refine za ?_; intro _ _) | (refine zs ?_; intro _ _))
      refine TL_call rfl rfl rfl _ _ _ (fun w h => ih ao L2 _ M (M + m - i) b hkL2 (by omega) (by omega) (by omega) (by omega) hr2 w h) ?_
      intro o3 hr3
      repeat' (first | refine rn ?_ | (refine zb ?_; intro _ _) | (refine za ?_; intro _ _) | (refine zs ?_; intro _ _))
      exact TQ_end0 Tryz.results210 (fun w' hs => ⟨o3, hr3, rfl, hs⟩)
    | false =>
      have hP : ¬ (M < M + m - i ∧ M + m - i < b) := fun h => by cases hq.2 h
      rw [if_neg hP]
      repeat' (first | refine rn ?_ | (refine zb ?_; intro _ _) | (refine za ?_; intro _ _) | (refine zs ?_; intro _ _))
      exact TQ_end0 Tryz.results210 (fun w' hs => ⟨o2, hr2, rfl, hs⟩)
theorem c185 {B : Nat} {w0 : World} {G : Hp} (cmp : Dd → Dd → Int) (kf : FuncId) (cl : List Value) [EntP Tryz.prog kf] (l0 l : List Dd) (ao : Option Addr) (cap : Nat) (ob : Hp)  (hk : Keeps l0 l) (hsm : l0.length ≤ 1000) (hn : l0.length ≤ 1000) (hrow : Row 50 9 encDd ao cap ob l) (hcmp : CmpG B w0 G (fun x : Dd => .agg (encDd x).toArray) cmp kf cl l0) (w : World) (hs : SH B w0 w (ob ++ G)) :
    Calls Tryz.prog 185 #[.slice ao l0.length cap, .int .i64 l0.length, .func (.func kf) #[] cl.toArray] w (RetP B w0 (fun _ : Hp => .tuple #[]) (fun o => o ++ G) (fun o => Row 50 9 encDd ao cap o (stM (ltC cmp) l0.length l0.length 20 (insB (ltC cmp) l0.length l0.length 0 l)))) := by
  refine enter (args := [.slice ao l0.length cap, .int .i64 l0.length, .func (.func kf) #[] cl.toArray]) Tryz.func185 rfl Tryz.ntmps185 rfl hs ?_
  repeat' (first | refine rn ?_ | (refine zb ?_; intro _ _) | (refine za ?_; intro _ _) | (refine zs ?_; intro _ _))
  refine TC_loop (σ := Nat × Nat × List Dd × Hp) (fun q => q.1 ≤ l0.length ∧ l0.length - q.1 ≤ q.2.1 ∧ Keeps l0 q.2.2.1 ∧ insB (ltC cmp) l0.length q.2.1 q.1 q.2.2.1 = insB (ltC cmp) l0.length l0.length 0 l ∧ Row 50 9 encDd ao cap q.2.2.2 q.2.2.1) (fun q => [(0, .slice ao l0.length cap), (1, .int .i64 l0.length), (2, .func (.func kf) #[] cl.toArray), (6, .int .i64 20), (7, .int .i64 q.1), (8, .int .i64 ((q.1 : Int) + 20))]) (fun q => q.2.2.2 ++ G) (fun q => l0.length - q.1) (0, l0.length, l, ob) ⟨Nat.zero_le _, Nat.le_refl _, hk, rfl, hrow⟩ sb (fun w h => h) (fun q hq => ?_)
  obtain ⟨a, g, m, o⟩ := q
  obtain ⟨ha, hg, hk2, hT, hr2⟩ := hq
  dsimp only at ha hg hk2 hT hr2 ⊢
  repeat' (first | refine rn ?_ | (refine zb ?_; intro _ _) | (refine za ?_; intro _ _) | (refine zs ?_; intro _ _))
  refine TC_cond_dec rfl (fun g1 => ?_) (fun g1 => ?_)
  · obtain ⟨g, rfl⟩ : ∃ g', g = g' + 1 := ⟨g - 1, by omega⟩
    rw [insB, if_pos (show a + 20 ≤ l0.length by omega)] at hT
    repeat' (first | refine rn ?_ | (refine zb ?_; intro _ _) | (refine za ?_; intro _ _) | (refine zs ?_; intro _ _))
    rw [show ((a : Int) + 20) = ((a + 20 : Nat) : Int) by omega]
    refine TL_call rfl rfl rfl _ _ _ (fun w h => c209 cmp kf cl l0 _ ao cap _ a (a + 20) hk2 hsm (by omega) (by omega) hr2 hcmp w h) ?_
    intro o3 hr3
    repeat' (first | refine rn ?_ | (refine zb ?_; intro _ _) | (refine za ?_; intro _ _) | (refine zs ?_; intro _ _))
    exact TQ_round (a + 20, g, insS (ltC cmp) a (a + 20) m, o3) ⟨by dsimp only; omega, by dsimp only; omega, hk2.trans (insS_keeps _ _ _ _), hT, hr3⟩ (by dsimp only; omega) sb (fun w h => h)
  have hB : insB (ltC cmp) l0.length g a m = insS (ltC cmp) a l0.length m := by
    cases g with
    | zero => rfl
    | succ g => rw [insB, if_neg (show ¬ a + 20 ≤ l0.length by omega)]
  rw [hB] at hT
  repeat' (first | refine rn ?_ | (refine zb ?_; intro _ _) | (refine za ?_; intro _ _) | (refine zs ?_; intro _ _))
  refine TL_call rfl rfl rfl _ _ _ (fun w h => c209 cmp kf cl l0 _ ao cap _ a l0.length hk2 hsm (Nat.le_refl _) (by omega) hr2 hcmp w h) ?_
  rw [hT]
  intro o1 hr1
  have hk3 : Keeps l0 (insB (ltC cmp) l0.length l0.length 0 l) := hk.trans (insB_keeps _ _ _ _ _)
  generalize insB (ltC cmp) l0.length l0.length 0 l = L at hr1 hk3 ⊢
  clear hT hB hr2 hk2 hg ha
  repeat' (first | refine rn ?_ | (refine zb ?_; intro _ _) | (refine za ?_; intro _ _) | (refine zs ?_; intro _ _))
  refine TC_loop (σ := Nat × Nat × List Dd × Hp) (fun q => 20 ≤ q.1 ∧ q.1 ≤ 2000 ∧ l0.length - q.1 ≤ q.2.1 ∧ Keeps l0 q.2.2.1 ∧ stM (ltC cmp) l0.length q.2.1 q.1 q.2.2.1 = stM (ltC cmp) l0.length l0.length 20 L ∧ Row 50 9 encDd ao cap q.2.2.2 q.2.2.1) (fun q => [(0, .slice ao l0.length cap), (1, .int .i64 l0.length), (2, .func (.func kf) #[] cl.toArray), (6, .int .i64 q.1)]) (fun q => q.2.2.2 ++ G) (fun q => l0.length - q.1) (20, l0.length, L, o1) ⟨Nat.le_refl _, by dsimp only; omega, by dsimp only; omega, hk3, rfl, hr1⟩ sb (fun w h => h) (fun q hq => ?_)
  obtain ⟨z, g, m, o⟩ := q
  obtain ⟨hz1, hz2, hg, hk2, hT, hr2⟩ := hq
  dsimp only at hz1 hz2 hg hk2 hT hr2 ⊢
  repeat' (first | refine rn ?_ | (refine zb ?_; intro _ _) | (refine za ?_; intro _ _) | (refine zs ?_; intro _ _))
  refine TC_cond_dec rfl (fun g1 => ?_) (fun g1 => ?_)
  · obtain ⟨g, rfl⟩ : ∃ g', g = g' + 1 := ⟨g - 1, by omega⟩
    rw [stM, if_pos (show z < l0.length by omega)] at hT
    repeat' (first | refine rn ?_ | (refine zb ?_; intro _ _) | (refine za ?_; intro _ _) | (refine zs ?_; intro _ _))
    refine TC_loop (σ := Nat × Nat × List Dd × Hp) (fun q => q.1 ≤ l0.length ∧ l0.length + 1 - q.1 ≤ q.2.1 ∧ Keeps l0 q.2.2.1 ∧ mgP (ltC cmp) z l0.length q.2.1 q.1 q.2.2.1 = mgP (ltC cmp) z l0.length (l0.length + 1) 0 m ∧ Row 50 9 encDd ao cap q.2.2.2 q.2.2.1) (fun q => [(0, .slice ao l0.length cap), (1, .int .i64 l0.length), (2, .func (.func kf) #[] cl.toArray), (6, .int .i64 z), (7, .int .i64 q.1), (8, .int .i64 ((q.1 : Int) + 2 * z))]) (fun q => q.2.2.2 ++ G) (fun q => l0.length - q.1) (0, l0.length + 1, m, o) ⟨Nat.zero_le _, Nat.le_refl _, hk2, rfl, hr2⟩ (by rw [show (((0 : Nat) : Int) + 2 * z) = 2 * (z : Int) by omega]; exact sb) (fun w h => h) (fun q hq => ?_)
    obtain ⟨a, g2, m2, o2⟩ := q
    obtain ⟨ha, hg2, hk3, hT2, hr3⟩ := hq
    dsimp only at ha hg2 hk3 hT2 hr3 ⊢
    obtain ⟨g2, rfl⟩ : ∃ g', g2 = g' + 1 := ⟨g2 - 1, by omega⟩
    rw [mgP] at hT2
    repeat' (first | refine rn ?_ | (refine zb ?_; intro _ _) | (refine za ?_; intro _ _) | (refine zs ?_; intro _ _))
    refine TC_cond_dec rfl (fun c1 => ?_) (fun c1 => ?_)
    · rw [if_pos (show a + 2 * z ≤ l0.length by omega)] at hT2
      repeat' (first | refine rn ?_ | (refine zb ?_; intro _ _) | (refine za ?_; intro _ _) | (refine zs ?_; intro _ _))
      rw [show ((a : Int) + z) = ((a + z : Nat) : Int) by omega, show ((a : Int) + 2 * z) = ((a + 2 * z : Nat) : Int) by omega]
      refine TL_call rfl rfl rfl _ _ _ (fun w h => c210 cmp kf cl l0 cap hsm hcmp l0.length ao m2 _ a (a + z) (a + 2 * z) hk3 (by omega) (by omega) (by omega) (by omega) hr3 w h) ?_
      intro o3 hr4
      repeat' (first | refine rn ?_ | (refine zb ?_; intro _ _) | (refine za ?_; intro _ _) | (refine zs ?_; intro _ _))
      exact TQ_round (a + 2 * z, g2, symM (ltC cmp) l0.length a (a + z) (a + 2 * z) m2, o3) ⟨by dsimp only; omega, by dsimp only; omega, hk3.trans (symM_keeps _ _ _ _ _ _), hT2, hr4⟩ (by dsimp only; omega) sb (fun w h => h)
    rw [if_neg (show ¬ a + 2 * z ≤ l0.length by omega)] at hT2
    repeat' (first | refine rn ?_ | (refine zb ?_; intro _ _) | (refine za ?_; intro _ _) | (refine zs ?_; intro _ _))
    refine TC_cond_dec rfl (fun c2 => ?_) (fun c2 => ?_)
    · rw [if_pos (show a + z < l0.length by omega)] at hT2
      repeat' (first | refine rn ?_ | (refine zb ?_; intro _ _) | (refine za ?_; intro _ _) | (refine zs ?_; intro _ _))
      rw [show ((a : Int) + z) = ((a + z : Nat) : Int) by omega]
      refine TL_call rfl rfl rfl _ _ _ (fun w h => c210 cmp kf cl l0 cap hsm hcmp l0.length ao m2 _ a (a + z) l0.length hk3 (by omega) (by omega) (Nat.le_refl _) (by omega) hr3 w h) ?_
      rw [hT2]
      intro o3 hr4
      repeat' (first | refine rn ?_ | (refine zb ?_; intro _ _) | (refine za ?_; intro _ _) | (refine zs ?_; intro _ _))
      exact TQ_round (z * 2, g, mgP (ltC cmp) z l0.length (l0.length + 1) 0 m, o3) ⟨by dsimp only; omega, by dsimp only; omega, by dsimp only; omega, hk2.trans (mgP_keeps _ _ _ _ _ _), hT, hr4⟩ (by dsimp only; omega) sb (fun w h => h)
    · rw [if_neg (show ¬ a + z < l0.length by omega)] at hT2
      repeat' (first | refine rn ?_ | (refine zb ?_; intro _ _) | (refine za ?_; intro _ _) | (refine zs ?_; intro _ _))
      exact TQ_round (z * 2, g, mgP (ltC cmp) z l0.length (l0.length + 1) 0 m, o2) ⟨by dsimp only; omega, by dsimp only; omega, by dsimp only; omega, hk2.trans (mgP_keeps _ _ _ _ _ _), hT, hT2 ▸ hr3⟩ (by dsimp only; omega) sb (fun w h => h)
  · have e : stM (ltC cmp) l0.length g z m = m := by
      cases g with
      | zero => rfl
      | succ g => rw [stM, if_neg (show ¬ z < l0.length by omega)]
    rw [e] at hT
    repeat' (first | refine rn ?_ | (refine zb ?_; intro _ _) | (refine za ?_; intro _ _) | (refine zs ?_; intro _ _))
    exact TQ_end0 Tryz.results185 (fun w' hs => ⟨o, hT ▸ hr2, rfl, hs⟩)
theorem c153 {B : Nat} {w0 : World} {G : Hp} (cmp : Dd → Dd → Int) (kf : FuncId) (cl : List Value) [EntP Tryz.prog kf] (l0 l : List Dd) (ao : Option Addr) (cap : Nat) (ob : Hp)  (hk : Keeps l0 l) (hsm : l0.length ≤ 1000) (hn : l0.length ≤ 1000) (hrow : Row 50 9 encDd ao cap ob l) (hcmp : CmpG B w0 G (fun x : Dd => .agg (encDd x).toArray) cmp kf cl l0) (w : World) (hs : SH B w0 w (ob ++ G)) :
    Calls Tryz.prog 153 #[.slice ao l0.length cap, .func (.func kf) #[] cl.toArray] w (RetP B w0 (fun _ : Hp => .tuple #[]) (fun o => o ++ G) (fun o => Row 50 9 encDd ao cap o (stM (ltC cmp) l0.length l0.length 20 (insB (ltC cmp) l0.length l0.length 0 l)))) := by
  refine enter (args := [.slice ao l0.length cap, .func (.func kf) #[] cl.toArray]) Tryz.func153 rfl Tryz.ntmps153 rfl hs ?_
  repeat' (first | refine rn ?_ | (refine zb ?_; intro _ _) | (refine za ?_; intro _ _) | (refine zs ?_; intro _ _))
  refine TL_call rfl rfl rfl _ _ _ (fun w h => c185 cmp kf cl l0 _ ao cap _ hk hsm hn hrow hcmp w h) ?_
  intro o3 hr3
  repeat' (first | refine rn ?_ | (refine zb ?_; intro _ _) | (refine za ?_; intro _ _) | (refine zs ?_; intro _ _))
  exact TQ_end0 Tryz.results153 (fun w' hs => ⟨o3, hr3, rfl, hs⟩)
end Go.Proofs.YtkpkebpofpcmaaaGreatDoor
