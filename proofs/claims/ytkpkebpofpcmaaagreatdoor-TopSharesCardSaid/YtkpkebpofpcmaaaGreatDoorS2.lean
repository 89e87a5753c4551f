/- Walks: the stable sort of at most 19 numbers. -/
import Derived.Test.YtkpkebpofpcmaaaGreatDoorEngR
import Derived.Test.YtkpkebpofpcmaaaGreatDoorS1
namespace Go.Proofs.YtkpkebpofpcmaaaGreatDoor
open Go Go.Eng Go.RowKit Go.Proofs
set_option maxHeartbeats 4000000
set_option maxRecDepth 10000
attribute [local irreducible] TL TC TQ

theorem c229 {B : Nat} {w0 : World} {G : Hp} (cmp : Int → Int → Int) (kf : FuncId) (cl : List Value) [EntP Tryz.prog kf] (l0 l : List Int) (ao : Option Addr) (cap : Nat) (ob : Hp) (a b : Nat) (hk : Keeps l0 l) (hsm : l0.length ≤ 1000) (hb : b ≤ l0.length) (ha : a ≤ 1000) (hrow : Row 3 1 encI ao cap ob l) (hcmp : CmpG B w0 G (fun x : Int => .int .i64 x) cmp kf cl l0) (w : World) (hs : SH B w0 w (ob ++ G)) :
    Calls Tryz.prog 229 #[.slice ao l0.length cap, .int .i64 a, .int .i64 b, .func (.func kf) #[] cl.toArray] w (RetP B w0 (fun _ : Hp => .tuple #[]) (fun o => o ++ G) (fun o => Row 3 1 encI ao cap o (insS (ltC cmp) a b l))) := by
  refine enter (args := [.slice ao l0.length cap, .int .i64 a, .int .i64 b, .func (.func kf) #[] cl.toArray]) Tryz.func229 rfl Tryz.ntmps229 rfl hs ?_
  repeat' (first | refine rn ?_ | (refine zb ?_; intro _ _) | (refine za ?_; intro _ _) | (refine zs ?_; intro _ _))
  refine TC_loop (σ := Nat × List Int × Hp) (fun q => a < q.1 ∧ Keeps l0 q.2.1 ∧ insI (ltC cmp) a q.1 (b - q.1) q.2.1 = insS (ltC cmp) a b l ∧ Row 3 1 encI ao cap q.2.2 q.2.1) (fun q => [(0, .slice ao l0.length cap), (1, .int .i64 a), (2, .int .i64 b), (3, .func (.func kf) #[] cl.toArray), (8, .int .i64 q.1)]) (fun q => q.2.2 ++ G) (fun q => b - q.1) (a + 1, l, ob) ⟨Nat.lt_succ_self a, hk, rfl, hrow⟩ sb (fun w h => h) (fun q hq => ?_)
  obtain ⟨k, m, o⟩ := q
  obtain ⟨hak, hkm, hT, hr⟩ := hq
  dsimp only at hak hkm hT hr ⊢
  repeat' (first | refine rn ?_ | (refine zb ?_; intro _ _) | (refine za ?_; intro _ _) | (refine zs ?_; intro _ _))
  refine TC_cond_dec rfl (fun g1 => ?_) (fun g1 => ?_)
  · have hkb : k < b := by omega
    obtain ⟨rr, hrr⟩ : ∃ rr, b - k = rr + 1 := ⟨b - k - 1, by omega⟩
    rw [hrr, insI] at hT
    repeat' (first | refine rn ?_ | (refine zb ?_; intro _ _) | (refine za ?_; intro _ _) | (refine zs ?_; intro _ _))
    refine TC_loop (σ := Nat × List Int × Hp) (fun q => a ≤ q.1 ∧ q.1 ≤ k ∧ Keeps l0 q.2.1 ∧ insJ (ltC cmp) a q.2.1 q.1 = insJ (ltC cmp) a m k ∧ Row 3 1 encI ao cap q.2.2 q.2.1) (fun q => [(0, .slice ao l0.length cap), (1, .int .i64 a), (2, .int .i64 b), (3, .func (.func kf) #[] cl.toArray), (8, .int .i64 k), (9, .int .i64 q.1)]) (fun q => q.2.2 ++ G) (fun q => q.1) (k, m, o) ⟨Nat.le_of_lt hak, Nat.le_refl _, hkm, rfl, hr⟩ sb (fun w h => h) (fun q hq => ?_)
    obtain ⟨j, m2, o2⟩ := q
    obtain ⟨haj, hjk, hk2, hT2, hr2⟩ := hq
    dsimp only at haj hjk hk2 hT2 hr2 ⊢
    have hml2 := hk2.len
    have fin : ∀ m3, insJ (ltC cmp) a m3 j = m3 → insJ (ltC cmp) a m3 j = insJ (ltC cmp) a m k → insI (ltC cmp) a (k + 1) (b - (k + 1)) m3 = insS (ltC cmp) a b l := fun m3 h1 h2 => by
      rw [show b - (k + 1) = rr by omega]
      rw [← h2, h1] at hT
      exact hT
    by_cases gj : a < j
    rotate_left
    · have e : insJ (ltC cmp) a m2 j = m2 := by
        cases j with
        | zero => rfl
        | succ j => unfold insJ; rw [if_neg (fun h => gj h.1)]
      repeat' (first | refine rn ?_ | (refine zb ?_; intro _ _) | (refine za ?_; intro _ _) | (refine zs ?_; intro _ _))
      apply TC_draw 17; kernel_rfl; exact Tryz.mixed
      · iterate 2 (refine' pv ?_; rotate_left)
        (refine' PG.val rfl rfl (by intro _X; refine TL_gtr_f rfl rfl rfl (by omega) ?_; exact qe) ?_; rotate_left)
        iterate 14 (refine' pv ?_; rotate_left)
        exact PG.nil
      change TL _ _ _ _ _ _ _ _ _ _ _
      repeat' (first | refine rn ?_ | (refine zb ?_; intro _ _) | (refine za ?_; intro _ _) | (refine zs ?_; intro _ _))
      exact TQ_round (k + 1, m2, o2) ⟨by dsimp only; omega, hk2, fin m2 e hT2, hr2⟩ (by dsimp only; omega) sb (fun w h => h)
    obtain ⟨j', rfl⟩ : ∃ j', j = j' + 1 := ⟨j - 1, by omega⟩
    obtain ⟨x, hx⟩ : ∃ x, m2[j' + 1]? = some x := ⟨_, List.getElem?_eq_getElem (by omega)⟩
    obtain ⟨y, hy⟩ : ∃ y, m2[j']? = some y := ⟨_, List.getElem?_eq_getElem (by omega)⟩
    have hlt := ltAt_eq (ltC cmp) hx hy
    repeat' (first | refine rn ?_ | (refine zb ?_; intro _ _) | (refine za ?_; intro _ _) | (refine zs ?_; intro _ _))
    apply TC_draw 17; kernel_rfl; exact Tryz.mixed
    · iterate 2 (refine' pv ?_; rotate_left)
      (refine' PG.val rfl rfl (by intro _X; refine TL_gtr_t rfl rfl rfl (by omega) ?_; exact qe) ?_; rotate_left)
      (refine' pv ?_; rotate_left)
      iterate 3 (refine' pg ?_; rotate_left)
      (refine' PG.val rfl rfl (by intro _X; (refine TL_guard_yes rfl rfl rfl ?_); refine TL_index (j' + 1) rfl rfl rfl (fun w h => hr2.sl h (fun p hp => by repeat (first | exact hp | exact List.mem_append_left _ hp | apply List.mem_append_right | apply List.mem_cons_of_mem))) (by omega) (by omega) (by omega) ?_; exact qe) ?_; rotate_left)
      (refine' PG.val rfl rfl (by intro _X; (refine TL_guard_yes rfl rfl rfl ?_); refine TL_load_el1 (u := x) rfl rfl (fun w h => hr2.sl h (fun p hp => by repeat (first | exact hp | exact List.mem_append_left _ hp | apply List.mem_append_right | apply List.mem_cons_of_mem))) hx rfl ?_; exact qe) ?_; rotate_left)
      iterate 3 (refine' pg ?_; rotate_left)
      (refine' PG.val rfl rfl (by intro _X; (refine TL_guard_yes rfl rfl rfl ?_); refine TL_index (j') rfl rfl rfl (fun w h => hr2.sl h (fun p hp => by repeat (first | exact hp | exact List.mem_append_left _ hp | apply List.mem_append_right | apply List.mem_cons_of_mem))) (by omega) (by omega) (by omega) ?_; exact qe) ?_; rotate_left)
      (refine' PG.val rfl rfl (by intro _X; (refine TL_guard_yes rfl rfl rfl ?_); refine TL_load_el1 (u := y) rfl rfl (fun w h => hr2.sl h (fun p hp => by repeat (first | exact hp | exact List.mem_append_left _ hp | apply List.mem_append_right | apply List.mem_cons_of_mem))) hy rfl ?_; exact qe) ?_; rotate_left)
      (refine' PG.val rfl rfl (by intro _X; (refine TL_guard_yes rfl rfl rfl ?_); refine TL_callV rfl rfl rfl (fun w h => hcmp x (hk2.mem x (List.mem_of_getElem? hx)) y (hk2.mem y (List.mem_of_getElem? hy)) _ w (fun p hp => by repeat (first | exact hp | exact List.mem_append_left _ hp | apply List.mem_append_right | apply List.mem_cons_of_mem)) h) ?_; exact qe) ?_; rotate_left)
      (refine' pg ?_; rotate_left)
      (refine' pv ?_; rotate_left)
      exact PG.nil
    change TL _ _ _ _ _ _ _ _ _ _ _
    repeat' (first | refine rn ?_ | (refine zb ?_; intro _ _) | (refine za ?_; intro _ _) | (refine zs ?_; intro _ _))
    refine TC_cond_dec rfl (fun g2 => ?_) (fun g2 => ?_)
    · have e : insJ (ltC cmp) a m2 (j' + 1) = insJ (ltC cmp) a (sw m2 (j' + 1) j') j' := by rw [insJ, if_pos ⟨gj, by rw [hlt]; exact decide_eq_true g2⟩]
      rw [e] at hT2
      obtain ⟨bb, cs, cs', rfl, rfl, hput, hr3⟩ := Row.put hr2 (off := 0) (vs := encI y) (u' := y) hx rfl rfl
      obtain ⟨b', cs1, cs2, e1, e2, hput2, hr4⟩ := hr3.put (off := 0) (i := j') (vs := encI x) (u := y) (u' := x) (by rw [List.getElem?_set_ne (by omega)]; exact hy) rfl rfl
      cases e1
      cases e2
      have hsl : ∀ (H : Hp) w', (bb, .cells cs 3) ∈ H → SH B w0 w' H → Sl w' 1 encI (some ⟨bb, 0, none⟩) m2 := fun H w' hm h => Row.sl hr2 h (fun p hp => by rw [List.mem_singleton.1 hp]; exact hm)
      have hsl1 : ∀ (H : Hp) w', (bb, .cells cs' 3) ∈ H → SH B w0 w' H → Sl w' 1 encI (some ⟨bb, 0, none⟩) (m2.set (j' + 1) y) := fun H w' hm h => hr3.sl h (fun p hp => by rw [List.mem_singleton.1 hp]; exact hm)
      have hputa : putN (0 + ((j' + 1) * 1 + 0)) (encI y) cs = some cs' := by rw [Nat.zero_add]; exact hput
      have hputb : putN (0 + ((j') * 1 + 0)) (encI x) cs' = some cs2 := by rw [Nat.zero_add]; exact hput2
      rw [← sw_set hx hy] at hr4
      repeat' (first | refine rn ?_ | (refine zb ?_; intro _ _) | (refine za ?_; intro _ _) | (refine zs ?_; intro _ _))
      apply TC_draw5 16 15 35 0 [8, 9, 12, 13, 14]; exact rfl; kernel_rfl; exact rfl; exact Tryz.mixed; exact rfl
      · iterate 8 (refine' pv5 ?_; rotate_left)
        (refine' PG5.vale rfl rfl rfl (by rintro  _X; refine TL_index (j') rfl rfl rfl (fun w h => hsl _ w mm h) (by omega) (by omega) (by omega) ?_; exact qe) ?_; rotate_left)
        (refine' PG5.vale rfl rfl rfl (by rintro  _X; refine TL_load_el1 (u := y) rfl rfl (fun w h => hsl _ w mm h) hy rfl ?_; exact qe) ?_; rotate_left)
        iterate 2 (refine' pv5 ?_; rotate_left)
        (refine' PG5.vale rfl rfl rfl (by rintro  _X; refine TL_index (j' + 1) rfl rfl rfl (fun w h => hsl _ w mm h) (by omega) (by omega) (by omega) ?_; exact qe) ?_; rotate_left)
        (refine' PG5.vale rfl rfl rfl (by rintro  _X; refine TL_load_el1 (u := x) rfl rfl (fun w h => hsl _ w mm h) hx rfl ?_; exact qe) ?_; rotate_left)
        (refine' PG5.vale rfl rfl rfl (by rintro  _X; refine TL_index (j' + 1) rfl rfl rfl (fun w h => hsl _ w mm h) (by omega) (by omega) (by omega) ?_; exact qe) ?_; rotate_left)
        (refine' PG5.sto ([(bb, .cells cs' 3)]) rfl rfl (by intro _X; refine TL_store (b := bb) (cs := cs) (cs' := cs') (T := 3) rfl rfl rfl rfl rfl up hputa ?_; exact TL_nil (TQ_QD (fun _ h => h))) ?_; rotate_left)
        exact PG5.nil
      rintro _ _ rfl
      change TL _ _ _ _ _ _ _ _ _ _ _
      repeat' (first | refine rn ?_ | (refine zb ?_; intro _ _) | (refine za ?_; intro _ _) | (refine zs ?_; intro _ _))
      refine TL_index (j') rfl rfl rfl (fun w h => hsl1 _ w (List.mem_append_left _ (List.Mem.head _)) h) (by omega) (by rw [List.length_set]; omega) (by rw [List.length_set]; omega) ?_
      refine TL_store (b := bb) (cs := cs') (cs' := cs2) (T := 3) rfl rfl rfl rfl rfl (by exact Upd.head) hputb ?_
      repeat' (first | refine rn ?_ | (refine zb ?_; intro _ _) | (refine za ?_; intro _ _) | (refine zs ?_; intro _ _))
      rw [show (((j' + 1 : Nat) : Int) - 1) = (j' : Int) by omega]
      exact TQ_round (j', sw m2 (j' + 1) j', [(bb, .cells cs2 3)]) ⟨by dsimp only; omega, by dsimp only; omega, hk2.trans (sw_keeps _ _ _), hT2, hr4⟩ (by dsimp only; omega) sb (fun w h => h)
    · have e : insJ (ltC cmp) a m2 (j' + 1) = m2 := by rw [insJ, if_neg (fun h => g2 (by have := h.2; rw [hlt] at this; exact of_decide_eq_true this))]
      repeat' (first | refine rn ?_ | (refine zb ?_; intro _ _) | (refine za ?_; intro _ _) | (refine zs ?_; intro _ _))
      exact TQ_round (k + 1, m2, o2) ⟨by dsimp only; omega, hk2, fin m2 e hT2, hr2⟩ (by dsimp only; omega) sb (fun w h => h)
  · rw [show b - k = 0 by omega, insI] at hT
    repeat' (first | refine rn ?_ | (refine zb ?_; intro _ _) | (refine za ?_; intro _ _) | (refine zs ?_; intro _ _))
    exact TQ_end0 Tryz.results229 (fun w' hs => ⟨o, hT ▸ hr, rfl, hs⟩)
theorem c223 {B : Nat} {w0 : World} {G : Hp} (cmp : Int → Int → Int) (kf : FuncId) (cl : List Value) [EntP Tryz.prog kf] (l0 l : List Int) (ao : Option Addr) (cap : Nat) (ob : Hp)  (hk : Keeps l0 l) (hsm : l0.length ≤ 1000) (hn : l0.length ≤ 19) (hrow : Row 3 1 encI ao cap ob l) (hcmp : CmpG B w0 G (fun x : Int => .int .i64 x) cmp kf cl l0) (w : World) (hs : SH B w0 w (ob ++ G)) :
    Calls Tryz.prog 223 #[.slice ao l0.length cap, .int .i64 l0.length, .func (.func kf) #[] cl.toArray] w (RetP B w0 (fun _ : Hp => .tuple #[]) (fun o => o ++ G) (fun o => Row 3 1 encI ao cap o (insS (ltC cmp) 0 l0.length l))) := by
  refine enter (args := [.slice ao l0.length cap, .int .i64 l0.length, .func (.func kf) #[] cl.toArray]) Tryz.func223 rfl Tryz.ntmps223 rfl hs ?_
  repeat' (first | refine rn ?_ | (refine zb ?_; intro _ _) | (refine za ?_; intro _ _) | (refine zs ?_; intro _ _))
  refine TC_loop (σ := Unit) (fun _ => True) (fun _ => [(0, .slice ao l0.length cap), (1, .int .i64 l0.length), (2, .func (.func kf) #[] cl.toArray), (6, .int .i64 20), (7, .int .i64 0), (8, .int .i64 20)]) (fun _ => ob ++ G) (fun _ => 0) () trivial sb (fun w h => h) (fun _ _ => ?_)
  repeat' (first | refine rn ?_ | (refine zb ?_; intro _ _) | (refine za ?_; intro _ _) | (refine zs ?_; intro _ _))
  refine TC_cond_dec rfl (fun g1 => by omega) (fun g1 => ?_)
  repeat' (first | refine rn ?_ | (refine zb ?_; intro _ _) | (refine za ?_; intro _ _) | (refine zs ?_; intro _ _))
  refine TL_call rfl rfl rfl _ _ _ (fun w h => c229 cmp kf cl l0 _ ao cap _ 0 l0.length hk hsm (Nat.le_refl _) (by omega) hrow hcmp w h) ?_
  intro o1 hr1
  repeat' (first | refine rn ?_ | (refine zb ?_; intro _ _) | (refine za ?_; intro _ _) | (refine zs ?_; intro _ _))
  refine TC_loop (σ := Unit) (fun _ => True) (fun _ => [(1, .int .i64 l0.length), (6, .int .i64 20)]) (fun _ => o1 ++ G) (fun _ => 0) () trivial sb (fun w h => h) (fun _ _ => ?_)
  repeat' (first | refine rn ?_ | (refine zb ?_; intro _ _) | (refine za ?_; intro _ _) | (refine zs ?_; intro _ _))
  refine TC_cond_dec rfl (fun g2 => by omega) (fun g2 => ?_)
  repeat' (first | refine rn ?_ | (refine zb ?_; intro _ _) | (refine za ?_; intro _ _) | (refine zs ?_; intro _ _))
  exact TQ_end0 Tryz.results223 (fun w' hs => ⟨o1, hr1, rfl, hs⟩)
theorem c212 {B : Nat} {w0 : World} {G : Hp} (cmp : Int → Int → Int) (kf : FuncId) (cl : List Value) [EntP Tryz.prog kf] (l0 l : List Int) (ao : Option Addr) (cap : Nat) (ob : Hp)  (hk : Keeps l0 l) (hsm : l0.length ≤ 1000) (hn : l0.length ≤ 19) (hrow : Row 3 1 encI ao cap ob l) (hcmp : CmpG B w0 G (fun x : Int => .int .i64 x) cmp kf cl l0) (w : World) (hs : SH B w0 w (ob ++ G)) :
    Calls Tryz.prog 212 #[.slice ao l0.length cap, .func (.func kf) #[] cl.toArray] w (RetP B w0 (fun _ : Hp => .tuple #[]) (fun o => o ++ G) (fun o => Row 3 1 encI ao cap o (insS (ltC cmp) 0 l0.length l))) := by
  refine enter (args := [.slice ao l0.length cap, .func (.func kf) #[] cl.toArray]) Tryz.func212 rfl Tryz.ntmps212 rfl hs ?_
  repeat' (first | refine rn ?_ | (refine zb ?_; intro _ _) | (refine za ?_; intro _ _) | (refine zs ?_; intro _ _))
  refine TL_call rfl rfl rfl _ _ _ (fun w h => c223 cmp kf cl l0 _ ao cap _ hk hsm hn hrow hcmp w h) ?_
  intro o3 hr3
  repeat' (first | refine rn ?_ | (refine zb ?_; intro _ _) | (refine za ?_; intro _ _) | (refine zs ?_; intro _ _))
  exact TQ_end0 Tryz.results212 (fun w' hs => ⟨o3, hr3, rfl, hs⟩)
end Go.Proofs.YtkpkebpofpcmaaaGreatDoor
