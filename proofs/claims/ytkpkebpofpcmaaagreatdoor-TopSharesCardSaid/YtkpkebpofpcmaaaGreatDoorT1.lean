/- Walks: slices.IndexFunc, ContainsFunc, hour.every, of functions that turn nothing. -/
import Derived.Test.YtkpkebpofpcmaaaGreatDoorEngR
import Derived.Test.YtkpkebpofpcmaaaGreatDoorT0
namespace Go.Proofs.YtkpkebpofpcmaaaGreatDoor
open Go Go.Eng Go.RowKit Go.Proofs
set_option maxHeartbeats 1000000
set_option maxRecDepth 10000
attribute [local irreducible] TL TC TQ

theorem not_any_not {α : Type} (q : α → Bool) (l : List α) : (!l.any fun x => !q x) = l.all q := by
  induction l with
  | nil => rfl
  | cons a l ih => simp [← ih]
theorem c114 (p : Int → Bool) (kf : FuncId) (cl : List Value) [EntP Tryz.prog kf] (l : List Int) (ao : Option Addr) (c : Nat) (hn : Small l.length) (w : World)
    (hsl : Sl w 1 encI ao l) (hcl : ∀ x ∈ l, ∀ w', Below w.heap.size w w' → Calls Tryz.prog kf (Value.int .i64 x :: cl).toArray w' (RetV w' (.bool (p x)))) :
    Calls Tryz.prog 114 #[.slice ao l.length c, .func (.func kf) #[] cl.toArray] w (RetV w (.int .i64 (fidx p l))) := by
  unfold Small at hn
  refine enter (args := [.slice ao l.length c, .func (.func kf) #[] cl.toArray]) Tryz.func114 rfl Tryz.ntmps114 rfl (SH.refl _) ?_
  repeat' (first | refine rn ?_ | (refine zb ?_; intro _ _) | (refine za ?_; intro _ _) | (refine zs ?_; intro _ _))
  refine TC_loop (σ := Nat) (fun k => k ≤ l.length ∧ ∀ i x, i < k → l[i]? = some x → p x = false) (fun k => [(0, .slice ao l.length c), (1, .func (.func kf) #[] cl.toArray), (7, .int .i64 l.length), (8, .int .i64 k)]) (fun k => []) (fun k => l.length - k) 0 ⟨Nat.zero_le _, fun i x h => by omega⟩ sb (fun w h => h) (fun k hk => ?_)
  repeat' (first | refine rn ?_ | (refine zb ?_; intro _ _) | (refine za ?_; intro _ _) | (refine zs ?_; intro _ _))
  refine TC_cond_dec rfl (fun h1 => ?_) (fun h1 => ?_)
  · have hlt : k < l.length := by omega
    obtain ⟨x, hx⟩ : ∃ x, l[k]? = some x := ⟨_, List.getElem?_eq_getElem hlt⟩
    repeat' (first | refine rn ?_ | (refine zb ?_; intro _ _) | (refine za ?_; intro _ _) | (refine zs ?_; intro _ _))
    refine TL_index k rfl rfl rfl (fun w h => h.sl hsl) rfl hlt (Nat.le_refl _) ?_
    refine TL_load_el1 (u := x) rfl rfl (fun w h => h.sl hsl) hx rfl ?_
    refine TL_callV rfl rfl rfl (fun w h => hcl x (List.mem_of_getElem? hx) w h.below) ?_
    repeat' (first | refine rn ?_ | (refine zb ?_; intro _ _) | (refine za ?_; intro _ _) | (refine zs ?_; intro _ _))
    refine TC_cond rfl (fun h2 => ?_) (fun h2 => ?_)
    · repeat' (first | refine rn ?_ | (refine zb ?_; intro _ _) | (refine za ?_; intro _ _) | (refine zs ?_; intro _ _))
      refine TQ_ret1 Tryz.results114 (RV.tmp rfl) (fun w' hs => ⟨by rw [fidx_at hx h2 hk.2], hs.below⟩)
    · repeat' (first | refine rn ?_ | (refine zb ?_; intro _ _) | (refine za ?_; intro _ _) | (refine zs ?_; intro _ _))
      refine TQ_round (k + 1) ⟨by omega, fun i y hi hy => ?_⟩ (by omega) sb (fun w h => h)
      rcases Nat.lt_or_ge i k with h | h
      · exact hk.2 i y h hy
      · have : i = k := by omega
        subst this; rw [hx] at hy; cases hy; exact h2
  · have hkl : k = l.length := by omega
    subst hkl
    repeat' (first | refine rn ?_ | (refine zb ?_; intro _ _) | (refine za ?_; intro _ _) | (refine zs ?_; intro _ _))
    refine TQ_ret1 Tryz.results114 (RV.tmp rfl) (fun w' hs => ⟨?_, hs.below⟩)
    rw [fidx_none (fun x hx => by
      obtain ⟨i, hi, rfl⟩ := List.getElem_of_mem hx
      exact hk.2 i _ hi (List.getElem?_eq_getElem hi))]

theorem c75 (p : Int → Bool) (kf : FuncId) (cl : List Value) [EntP Tryz.prog kf] (l : List Int) (ao : Option Addr) (c : Nat) (hn : Small l.length) (w : World)
    (hsl : Sl w 1 encI ao l) (hcl : ∀ x ∈ l, ∀ w', Below w.heap.size w w' → Calls Tryz.prog kf (Value.int .i64 x :: cl).toArray w' (RetV w' (.bool (p x)))) :
    Calls Tryz.prog 75 #[.slice ao l.length c, .func (.func kf) #[] cl.toArray] w (RetV w (.bool (l.any p))) := by
  refine enter (args := [.slice ao l.length c, .func (.func kf) #[] cl.toArray]) Tryz.func75 rfl Tryz.ntmps75 rfl (SH.refl _) ?_
  repeat' (first | refine rn ?_ | (refine zb ?_; intro _ _) | (refine za ?_; intro _ _) | (refine zs ?_; intro _ _))
  refine TL_callV rfl rfl rfl (fun w h => c114 p kf cl l ao c hn w (h.sl hsl) (fun x hx w' hb => hcl x hx w' (h.below.trans (hb.mono h.hB)))) ?_
  repeat' (first | refine rn ?_ | (refine zb ?_; intro _ _) | (refine za ?_; intro _ _) | (refine zs ?_; intro _ _))
  exact TQ_ret1 Tryz.results75 (RV.tmp rfl) (fun w' hs => ⟨by rw [fidx_any], hs.below⟩)

theorem c178 (p : Sp → Bool) (kf : FuncId) (cl : List Value) [EntP Tryz.prog kf] (l : List Sp) (ao : Option Addr) (c : Nat) (hn : Small l.length) (w : World)
    (hsl : Sl w 2 encSp ao l) (hcl : ∀ x ∈ l, ∀ w', Below w.heap.size w w' → Calls Tryz.prog kf (Value.agg (encSp x).toArray :: cl).toArray w' (RetV w' (.bool (p x)))) :
    Calls Tryz.prog 178 #[.slice ao l.length c, .func (.func kf) #[] cl.toArray] w (RetV w (.int .i64 (fidx p l))) := by
  unfold Small at hn
  refine enter (args := [.slice ao l.length c, .func (.func kf) #[] cl.toArray]) Tryz.func178 rfl Tryz.ntmps178 rfl (SH.refl _) ?_
  repeat' (first | refine rn ?_ | (refine zb ?_; intro _ _) | (refine za ?_; intro _ _) | (refine zs ?_; intro _ _))
  refine TC_loop (σ := Nat) (fun k => k ≤ l.length ∧ ∀ i x, i < k → l[i]? = some x → p x = false) (fun k => [(0, .slice ao l.length c), (1, .func (.func kf) #[] cl.toArray), (7, .int .i64 l.length), (8, .int .i64 k)]) (fun k => []) (fun k => l.length - k) 0 ⟨Nat.zero_le _, fun i x h => by omega⟩ sb (fun w h => h) (fun k hk => ?_)
  repeat' (first | refine rn ?_ | (refine zb ?_; intro _ _) | (refine za ?_; intro _ _) | (refine zs ?_; intro _ _))
  refine TC_cond_dec rfl (fun h1 => ?_) (fun h1 => ?_)
  · have hlt : k < l.length := by omega
    obtain ⟨x, hx⟩ : ∃ x, l[k]? = some x := ⟨_, List.getElem?_eq_getElem hlt⟩
    repeat' (first | refine rn ?_ | (refine zb ?_; intro _ _) | (refine za ?_; intro _ _) | (refine zs ?_; intro _ _))
    refine TL_index k rfl rfl rfl (fun w h => h.sl hsl) rfl hlt (Nat.le_refl _) ?_
    refine TL_load_eln (u := x) rfl rfl (fun w h => h.sl hsl) hx rfl ?_
    refine TL_callV rfl rfl rfl (fun w h => hcl x (List.mem_of_getElem? hx) w h.below) ?_
    repeat' (first | refine rn ?_ | (refine zb ?_; intro _ _) | (refine za ?_; intro _ _) | (refine zs ?_; intro _ _))
    refine TC_cond rfl (fun h2 => ?_) (fun h2 => ?_)
    · repeat' (first | refine rn ?_ | (refine zb ?_; intro _ _) | (refine za ?_; intro _ _) | (refine zs ?_; intro _ _))
      refine TQ_ret1 Tryz.results178 (RV.tmp rfl) (fun w' hs => ⟨by rw [fidx_at hx h2 hk.2], hs.below⟩)
    · repeat' (first | refine rn ?_ | (refine zb ?_; intro _ _) | (refine za ?_; intro _ _) | (refine zs ?_; intro _ _))
      refine TQ_round (k + 1) ⟨by omega, fun i y hi hy => ?_⟩ (by omega) sb (fun w h => h)
      rcases Nat.lt_or_ge i k with h | h
      · exact hk.2 i y h hy
      · have : i = k := by omega
        subst this; rw [hx] at hy; cases hy; exact h2
  · have hkl : k = l.length := by omega
    subst hkl
    repeat' (first | refine rn ?_ | (refine zb ?_; intro _ _) | (refine za ?_; intro _ _) | (refine zs ?_; intro _ _))
    refine TQ_ret1 Tryz.results178 (RV.tmp rfl) (fun w' hs => ⟨?_, hs.below⟩)
    rw [fidx_none (fun x hx => by
      obtain ⟨i, hi, rfl⟩ := List.getElem_of_mem hx
      exact hk.2 i _ hi (List.getElem?_eq_getElem hi))]

theorem c144 (p : Sp → Bool) (kf : FuncId) (cl : List Value) [EntP Tryz.prog kf] (l : List Sp) (ao : Option Addr) (c : Nat) (hn : Small l.length) (w : World)
    (hsl : Sl w 2 encSp ao l) (hcl : ∀ x ∈ l, ∀ w', Below w.heap.size w w' → Calls Tryz.prog kf (Value.agg (encSp x).toArray :: cl).toArray w' (RetV w' (.bool (p x)))) :
    Calls Tryz.prog 144 #[.slice ao l.length c, .func (.func kf) #[] cl.toArray] w (RetV w (.bool (l.any p))) := by
  refine enter (args := [.slice ao l.length c, .func (.func kf) #[] cl.toArray]) Tryz.func144 rfl Tryz.ntmps144 rfl (SH.refl _) ?_
  repeat' (first | refine rn ?_ | (refine zb ?_; intro _ _) | (refine za ?_; intro _ _) | (refine zs ?_; intro _ _))
  refine TL_callV rfl rfl rfl (fun w h => c178 p kf cl l ao c hn w (h.sl hsl) (fun x hx w' hb => hcl x hx w' (h.below.trans (hb.mono h.hB)))) ?_
  repeat' (first | refine rn ?_ | (refine zb ?_; intro _ _) | (refine za ?_; intro _ _) | (refine zs ?_; intro _ _))
  exact TQ_ret1 Tryz.results144 (RV.tmp rfl) (fun w' hs => ⟨by rw [fidx_any], hs.below⟩)

theorem c145 (q : Sp → Bool) (kf : FuncId) (cl : List Value) [EntP Tryz.prog kf] (x : Sp) (b : Nat) (w : World) (h3 : Sl w 1 encV (some ⟨b, 0, none⟩) [.func (.func kf) #[] cl.toArray])
    (hcl : ∀ w', Below w.heap.size w w' → Calls Tryz.prog kf (Value.agg (encSp x).toArray :: cl).toArray w' (RetV w' (.bool (q x)))) :
    Calls Tryz.prog 145 #[Value.agg (encSp x).toArray, .pointer (some ⟨b, 0, none⟩)] w (RetV w (.bool (!q x))) := by
  refine enter (args := [Value.agg (encSp x).toArray, .pointer (some ⟨b, 0, none⟩)]) Tryz.func145 rfl Tryz.ntmps145 rfl (SH.refl _) ?_
  repeat' (first | refine rn ?_ | (refine zb ?_; intro _ _) | (refine za ?_; intro _ _) | (refine zs ?_; intro _ _))
  refine TL_load_el1 (i := 0) (o := 0) rfl rfl (fun w h => h.sl h3) rfl rfl ?_
  repeat' (first | refine rn ?_ | (refine zb ?_; intro _ _) | (refine za ?_; intro _ _) | (refine zs ?_; intro _ _))
  refine TL_callV rfl rfl rfl (fun w h => hcl w h.below) ?_
  repeat' (first | refine rn ?_ | (refine zb ?_; intro _ _) | (refine za ?_; intro _ _) | (refine zs ?_; intro _ _))
  exact TQ_ret1 Tryz.results145 (RV.tmp rfl) (fun w' hs => ⟨rfl, hs.below⟩)
theorem c116 (q : Sp → Bool) (kf : FuncId) (cl : List Value) [EntP Tryz.prog kf] (l : List Sp) (ao : Option Addr) (c : Nat) (hn : Small l.length) (w : World)
    (hsl : Sl w 2 encSp ao l) (hcl : ∀ x ∈ l, ∀ w', Below w.heap.size w w' → Calls Tryz.prog kf (Value.agg (encSp x).toArray :: cl).toArray w' (RetV w' (.bool (q x)))) :
    Calls Tryz.prog 116 #[.slice ao l.length c, .func (.func kf) #[] cl.toArray] w (RetV w (.bool (l.all q))) := by
  refine enter (args := [.slice ao l.length c, .func (.func kf) #[] cl.toArray]) Tryz.func116 rfl Tryz.ntmps116 rfl (SH.refl _) ?_
  repeat' (first | refine rn ?_ | (refine zb ?_; intro _ _) | (refine za ?_; intro _ _) | (refine zs ?_; intro _ _))
  rename_i b3 _
  refine TL_callV rfl rfl rfl (fun w h => c144 (fun x => !q x) 145 [.pointer (some ⟨b3, 0, none⟩)] l ao c hn w (h.sl hsl) (fun x hx w' hb => c145 q kf cl x b3 w' (Sl.of_blk (h.ext hb) mm (fun _ _ => rfl) ⟨[], rfl⟩) (fun w'' hb' => hcl x hx w'' ((h.ext hb).below.trans (hb'.mono (h.ext hb).hB))))) ?_
  repeat' (first | refine rn ?_ | (refine zb ?_; intro _ _) | (refine za ?_; intro _ _) | (refine zs ?_; intro _ _))
  refine TQ_ret1 Tryz.results116 (RV.tmp rfl) (fun w' hs => ⟨?_, hs.below⟩)
  rw [not_any_not]

theorem c179 (p : St → Bool) (kf : FuncId) (cl : List Value) [EntP Tryz.prog kf] (l : List St) (ao : Option Addr) (c : Nat) (hn : Small l.length) (w : World)
    (hsl : Sl w 4 encSt ao l) (hcl : ∀ x ∈ l, ∀ w', Below w.heap.size w w' → Calls Tryz.prog kf (Value.agg (encSt x).toArray :: cl).toArray w' (RetV w' (.bool (p x)))) :
    Calls Tryz.prog 179 #[.slice ao l.length c, .func (.func kf) #[] cl.toArray] w (RetV w (.int .i64 (fidx p l))) := by
  unfold Small at hn
  refine enter (args := [.slice ao l.length c, .func (.func kf) #[] cl.toArray]) Tryz.func179 rfl Tryz.ntmps179 rfl (SH.refl _) ?_
  repeat' (first | refine rn ?_ | (refine zb ?_; intro _ _) | (refine za ?_; intro _ _) | (refine zs ?_; intro _ _))
  refine TC_loop (σ := Nat) (fun k => k ≤ l.length ∧ ∀ i x, i < k → l[i]? = some x → p x = false) (fun k => [(0, .slice ao l.length c), (1, .func (.func kf) #[] cl.toArray), (7, .int .i64 l.length), (8, .int .i64 k)]) (fun k => []) (fun k => l.length - k) 0 ⟨Nat.zero_le _, fun i x h => by omega⟩ sb (fun w h => h) (fun k hk => ?_)
  repeat' (first | refine rn ?_ | (refine zb ?_; intro _ _) | (refine za ?_; intro _ _) | (refine zs ?_; intro _ _))
  refine TC_cond_dec rfl (fun h1 => ?_) (fun h1 => ?_)
  · have hlt : k < l.length := by omega
    obtain ⟨x, hx⟩ : ∃ x, l[k]? = some x := ⟨_, List.getElem?_eq_getElem hlt⟩
    repeat' (first | refine rn ?_ | (refine zb ?_; intro _ _) | (refine za ?_; intro _ _) | (refine zs ?_; intro _ _))
    refine TL_index k rfl rfl rfl (fun w h => h.sl hsl) rfl hlt (Nat.le_refl _) ?_
    refine TL_load_eln (u := x) rfl rfl (fun w h => h.sl hsl) hx rfl ?_
    refine TL_callV rfl rfl rfl (fun w h => hcl x (List.mem_of_getElem? hx) w h.below) ?_
    repeat' (first | refine rn ?_ | (refine zb ?_; intro _ _) | (refine za ?_; intro _ _) | (refine zs ?_; intro _ _))
    refine TC_cond rfl (fun h2 => ?_) (fun h2 => ?_)
    · repeat' (first | refine rn ?_ | (refine zb ?_; intro _ _) | (refine za ?_; intro _ _) | (refine zs ?_; intro _ _))
      refine TQ_ret1 Tryz.results179 (RV.tmp rfl) (fun w' hs => ⟨by rw [fidx_at hx h2 hk.2], hs.below⟩)
    · repeat' (first | refine rn ?_ | (refine zb ?_; intro _ _) | (refine za ?_; intro _ _) | (refine zs ?_; intro _ _))
      refine TQ_round (k + 1) ⟨by omega, fun i y hi hy => ?_⟩ (by omega) sb (fun w h => h)
      rcases Nat.lt_or_ge i k with h | h
      · exact hk.2 i y h hy
      · have : i = k := by omega
        subst this; rw [hx] at hy; cases hy; exact h2
  · have hkl : k = l.length := by omega
    subst hkl
    repeat' (first | refine rn ?_ | (refine zb ?_; intro _ _) | (refine za ?_; intro _ _) | (refine zs ?_; intro _ _))
    refine TQ_ret1 Tryz.results179 (RV.tmp rfl) (fun w' hs => ⟨?_, hs.below⟩)
    rw [fidx_none (fun x hx => by
      obtain ⟨i, hi, rfl⟩ := List.getElem_of_mem hx
      exact hk.2 i _ hi (List.getElem?_eq_getElem hi))]

theorem c146 (p : St → Bool) (kf : FuncId) (cl : List Value) [EntP Tryz.prog kf] (l : List St) (ao : Option Addr) (c : Nat) (hn : Small l.length) (w : World)
    (hsl : Sl w 4 encSt ao l) (hcl : ∀ x ∈ l, ∀ w', Below w.heap.size w w' → Calls Tryz.prog kf (Value.agg (encSt x).toArray :: cl).toArray w' (RetV w' (.bool (p x)))) :
    Calls Tryz.prog 146 #[.slice ao l.length c, .func (.func kf) #[] cl.toArray] w (RetV w (.bool (l.any p))) := by
  refine enter (args := [.slice ao l.length c, .func (.func kf) #[] cl.toArray]) Tryz.func146 rfl Tryz.ntmps146 rfl (SH.refl _) ?_
  repeat' (first | refine rn ?_ | (refine zb ?_; intro _ _) | (refine za ?_; intro _ _) | (refine zs ?_; intro _ _))
  refine TL_callV rfl rfl rfl (fun w h => c179 p kf cl l ao c hn w (h.sl hsl) (fun x hx w' hb => hcl x hx w' (h.below.trans (hb.mono h.hB)))) ?_
  repeat' (first | refine rn ?_ | (refine zb ?_; intro _ _) | (refine za ?_; intro _ _) | (refine zs ?_; intro _ _))
  exact TQ_ret1 Tryz.results146 (RV.tmp rfl) (fun w' hs => ⟨by rw [fidx_any], hs.below⟩)

theorem c147 (q : St → Bool) (kf : FuncId) (cl : List Value) [EntP Tryz.prog kf] (x : St) (b : Nat) (w : World) (h3 : Sl w 1 encV (some ⟨b, 0, none⟩) [.func (.func kf) #[] cl.toArray])
    (hcl : ∀ w', Below w.heap.size w w' → Calls Tryz.prog kf (Value.agg (encSt x).toArray :: cl).toArray w' (RetV w' (.bool (q x)))) :
    Calls Tryz.prog 147 #[Value.agg (encSt x).toArray, .pointer (some ⟨b, 0, none⟩)] w (RetV w (.bool (!q x))) := by
  refine enter (args := [Value.agg (encSt x).toArray, .pointer (some ⟨b, 0, none⟩)]) Tryz.func147 rfl Tryz.ntmps147 rfl (SH.refl _) ?_
  repeat' (first | refine rn ?_ | (refine zb ?_; intro _ _) | (refine za ?_; intro _ _) | (refine zs ?_; intro _ _))
  refine TL_load_el1 (i := 0) (o := 0) rfl rfl (fun w h => h.sl h3) rfl rfl ?_
  repeat' (first | refine rn ?_ | (refine zb ?_; intro _ _) | (refine za ?_; intro _ _) | (refine zs ?_; intro _ _))
  refine TL_callV rfl rfl rfl (fun w h => hcl w h.below) ?_
  repeat' (first | refine rn ?_ | (refine zb ?_; intro _ _) | (refine za ?_; intro _ _) | (refine zs ?_; intro _ _))
  exact TQ_ret1 Tryz.results147 (RV.tmp rfl) (fun w' hs => ⟨rfl, hs.below⟩)
theorem c117 (q : St → Bool) (kf : FuncId) (cl : List Value) [EntP Tryz.prog kf] (l : List St) (ao : Option Addr) (c : Nat) (hn : Small l.length) (w : World)
    (hsl : Sl w 4 encSt ao l) (hcl : ∀ x ∈ l, ∀ w', Below w.heap.size w w' → Calls Tryz.prog kf (Value.agg (encSt x).toArray :: cl).toArray w' (RetV w' (.bool (q x)))) :
    Calls Tryz.prog 117 #[.slice ao l.length c, .func (.func kf) #[] cl.toArray] w (RetV w (.bool (l.all q))) := by
  refine enter (args := [.slice ao l.length c, .func (.func kf) #[] cl.toArray]) Tryz.func117 rfl Tryz.ntmps117 rfl (SH.refl _) ?_
  repeat' (first | refine rn ?_ | (refine zb ?_; intro _ _) | (refine za ?_; intro _ _) | (refine zs ?_; intro _ _))
  rename_i b3 _
  refine TL_callV rfl rfl rfl (fun w h => c146 (fun x => !q x) 147 [.pointer (some ⟨b3, 0, none⟩)] l ao c hn w (h.sl hsl) (fun x hx w' hb => c147 q kf cl x b3 w' (Sl.of_blk (h.ext hb) mm (fun _ _ => rfl) ⟨[], rfl⟩) (fun w'' hb' => hcl x hx w'' ((h.ext hb).below.trans (hb'.mono (h.ext hb).hB))))) ?_
  repeat' (first | refine rn ?_ | (refine zb ?_; intro _ _) | (refine za ?_; intro _ _) | (refine zs ?_; intro _ _))
  refine TQ_ret1 Tryz.results117 (RV.tmp rfl) (fun w' hs => ⟨?_, hs.below⟩)
  rw [not_any_not]

theorem c70 (p : Sp → Bool) (kf : FuncId) (cl : List Value) [EntP Tryz.prog kf] (l : List Sp) (ao : Option Addr) (c : Nat) (hn : Small l.length) (w : World)
    (hsl : Sl w 2 encSp ao l) (hcl : ∀ x ∈ l, ∀ w', Below w.heap.size w w' → Calls Tryz.prog kf (Value.agg (encSp x).toArray :: cl).toArray w' (RetV w' (.bool (p x)))) :
    Calls Tryz.prog 70 #[.slice ao l.length c, .func (.func kf) #[] cl.toArray] w (RetV w (.int .i64 (fidx p l))) := by
  unfold Small at hn
  refine enter (args := [.slice ao l.length c, .func (.func kf) #[] cl.toArray]) Tryz.func70 rfl Tryz.ntmps70 rfl (SH.refl _) ?_
  repeat' (first | refine rn ?_ | (refine zb ?_; intro _ _) | (refine za ?_; intro _ _) | (refine zs ?_; intro _ _))
  refine TC_loop (σ := Nat) (fun k => k ≤ l.length ∧ ∀ i x, i < k → l[i]? = some x → p x = false) (fun k => [(0, .slice ao l.length c), (1, .func (.func kf) #[] cl.toArray), (7, .int .i64 l.length), (8, .int .i64 k)]) (fun k => []) (fun k => l.length - k) 0 ⟨Nat.zero_le _, fun i x h => by omega⟩ sb (fun w h => h) (fun k hk => ?_)
  repeat' (first | refine rn ?_ | (refine zb ?_; intro _ _) | (refine za ?_; intro _ _) | (refine zs ?_; intro _ _))
  refine TC_cond_dec rfl (fun h1 => ?_) (fun h1 => ?_)
  · have hlt : k < l.length := by omega
    obtain ⟨x, hx⟩ : ∃ x, l[k]? = some x := ⟨_, List.getElem?_eq_getElem hlt⟩
    repeat' (first | refine rn ?_ | (refine zb ?_; intro _ _) | (refine za ?_; intro _ _) | (refine zs ?_; intro _ _))
    refine TL_index k rfl rfl rfl (fun w h => h.sl hsl) rfl hlt (Nat.le_refl _) ?_
    refine TL_load_eln (u := x) rfl rfl (fun w h => h.sl hsl) hx rfl ?_
    refine TL_callV rfl rfl rfl (fun w h => hcl x (List.mem_of_getElem? hx) w h.below) ?_
    repeat' (first | refine rn ?_ | (refine zb ?_; intro _ _) | (refine za ?_; intro _ _) | (refine zs ?_; intro _ _))
    refine TC_cond rfl (fun h2 => ?_) (fun h2 => ?_)
    · repeat' (first | refine rn ?_ | (refine zb ?_; intro _ _) | (refine za ?_; intro _ _) | (refine zs ?_; intro _ _))
      refine TQ_ret1 Tryz.results70 (RV.tmp rfl) (fun w' hs => ⟨by rw [fidx_at hx h2 hk.2], hs.below⟩)
    · repeat' (first | refine rn ?_ | (refine zb ?_; intro _ _) | (refine za ?_; intro _ _) | (refine zs ?_; intro _ _))
      refine TQ_round (k + 1) ⟨by omega, fun i y hi hy => ?_⟩ (by omega) sb (fun w h => h)
      rcases Nat.lt_or_ge i k with h | h
      · exact hk.2 i y h hy
      · have : i = k := by omega
        subst this; rw [hx] at hy; cases hy; exact h2
  · have hkl : k = l.length := by omega
    subst hkl
    repeat' (first | refine rn ?_ | (refine zb ?_; intro _ _) | (refine za ?_; intro _ _) | (refine zs ?_; intro _ _))
    refine TQ_ret1 Tryz.results70 (RV.tmp rfl) (fun w' hs => ⟨?_, hs.below⟩)
    rw [fidx_none (fun x hx => by
      obtain ⟨i, hi, rfl⟩ := List.getElem_of_mem hx
      exact hk.2 i _ hi (List.getElem?_eq_getElem hi))]

theorem c150 (p : Dd → Bool) (kf : FuncId) (cl : List Value) [EntP Tryz.prog kf] (l : List Dd) (ao : Option Addr) (c : Nat) (hn : Small l.length) (w : World)
    (hsl : Sl w 9 encDd ao l) (hcl : ∀ x ∈ l, ∀ w', Below w.heap.size w w' → Calls Tryz.prog kf (Value.agg (encDd x).toArray :: cl).toArray w' (RetV w' (.bool (p x)))) :
    Calls Tryz.prog 150 #[.slice ao l.length c, .func (.func kf) #[] cl.toArray] w (RetV w (.int .i64 (fidx p l))) := by
  unfold Small at hn
  refine enter (args := [.slice ao l.length c, .func (.func kf) #[] cl.toArray]) Tryz.func150 rfl Tryz.ntmps150 rfl (SH.refl _) ?_
  repeat' (first | refine rn ?_ | (refine zb ?_; intro _ _) | (refine za ?_; intro _ _) | (refine zs ?_; intro _ _))
  refine TC_loop (σ := Nat) (fun k => k ≤ l.length ∧ ∀ i x, i < k → l[i]? = some x → p x = false) (fun k => [(0, .slice ao l.length c), (1, .func (.func kf) #[] cl.toArray), (7, .int .i64 l.length), (8, .int .i64 k)]) (fun k => []) (fun k => l.length - k) 0 ⟨Nat.zero_le _, fun i x h => by omega⟩ sb (fun w h => h) (fun k hk => ?_)
  repeat' (first | refine rn ?_ | (refine zb ?_; intro _ _) | (refine za ?_; intro _ _) | (refine zs ?_; intro _ _))
  refine TC_cond_dec rfl (fun h1 => ?_) (fun h1 => ?_)
  · have hlt : k < l.length := by omega
    obtain ⟨x, hx⟩ : ∃ x, l[k]? = some x := ⟨_, List.getElem?_eq_getElem hlt⟩
    repeat' (first | refine rn ?_ | (refine zb ?_; intro _ _) | (refine za ?_; intro _ _) | (refine zs ?_; intro _ _))
    refine TL_index k rfl rfl rfl (fun w h => h.sl hsl) rfl hlt (Nat.le_refl _) ?_
    refine TL_load_eln (u := x) rfl rfl (fun w h => h.sl hsl) hx rfl ?_
    refine TL_callV rfl rfl rfl (fun w h => hcl x (List.mem_of_getElem? hx) w h.below) ?_
    repeat' (first | refine rn ?_ | (refine zb ?_; intro _ _) | (refine za ?_; intro _ _) | (refine zs ?_; intro _ _))
    refine TC_cond rfl (fun h2 => ?_) (fun h2 => ?_)
    · repeat' (first | refine rn ?_ | (refine zb ?_; intro _ _) | (refine za ?_; intro _ _) | (refine zs ?_; intro _ _))
      refine TQ_ret1 Tryz.results150 (RV.tmp rfl) (fun w' hs => ⟨by rw [fidx_at hx h2 hk.2], hs.below⟩)
    · repeat' (first | refine rn ?_ | (refine zb ?_; intro _ _) | (refine za ?_; intro _ _) | (refine zs ?_; intro _ _))
      refine TQ_round (k + 1) ⟨by omega, fun i y hi hy => ?_⟩ (by omega) sb (fun w h => h)
      rcases Nat.lt_or_ge i k with h | h
      · exact hk.2 i y h hy
      · have : i = k := by omega
        subst this; rw [hx] at hy; cases hy; exact h2
  · have hkl : k = l.length := by omega
    subst hkl
    repeat' (first | refine rn ?_ | (refine zb ?_; intro _ _) | (refine za ?_; intro _ _) | (refine zs ?_; intro _ _))
    refine TQ_ret1 Tryz.results150 (RV.tmp rfl) (fun w' hs => ⟨?_, hs.below⟩)
    rw [fidx_none (fun x hx => by
      obtain ⟨i, hi, rfl⟩ := List.getElem_of_mem hx
      exact hk.2 i _ hi (List.getElem?_eq_getElem hi))]

theorem c120 (p : Dd → Bool) (kf : FuncId) (cl : List Value) [EntP Tryz.prog kf] (l : List Dd) (ao : Option Addr) (c : Nat) (hn : Small l.length) (w : World)
    (hsl : Sl w 9 encDd ao l) (hcl : ∀ x ∈ l, ∀ w', Below w.heap.size w w' → Calls Tryz.prog kf (Value.agg (encDd x).toArray :: cl).toArray w' (RetV w' (.bool (p x)))) :
    Calls Tryz.prog 120 #[.slice ao l.length c, .func (.func kf) #[] cl.toArray] w (RetV w (.bool (l.any p))) := by
  refine enter (args := [.slice ao l.length c, .func (.func kf) #[] cl.toArray]) Tryz.func120 rfl Tryz.ntmps120 rfl (SH.refl _) ?_
  repeat' (first | refine rn ?_ | (refine zb ?_; intro _ _) | (refine za ?_; intro _ _) | (refine zs ?_; intro _ _))
  refine TL_callV rfl rfl rfl (fun w h => c150 p kf cl l ao c hn w (h.sl hsl) (fun x hx w' hb => hcl x hx w' (h.below.trans (hb.mono h.hB)))) ?_
  repeat' (first | refine rn ?_ | (refine zb ?_; intro _ _) | (refine za ?_; intro _ _) | (refine zs ?_; intro _ _))
  exact TQ_ret1 Tryz.results120 (RV.tmp rfl) (fun w' hs => ⟨by rw [fidx_any], hs.below⟩)

theorem c41 (p : Pc → Bool) (kf : FuncId) (cl : List Value) [EntP Tryz.prog kf] (l : List Pc) (ao : Option Addr) (c : Nat) (hn : Small l.length) (w : World)
    (hsl : Sl w 5 encPc ao l) (hcl : ∀ x ∈ l, ∀ w', Below w.heap.size w w' → Calls Tryz.prog kf (Value.agg (encPc x).toArray :: cl).toArray w' (RetV w' (.bool (p x)))) :
    Calls Tryz.prog 41 #[.slice ao l.length c, .func (.func kf) #[] cl.toArray] w (RetV w (.int .i64 (fidx p l))) := by
  unfold Small at hn
  refine enter (args := [.slice ao l.length c, .func (.func kf) #[] cl.toArray]) Tryz.func41 rfl Tryz.ntmps41 rfl (SH.refl _) ?_
  repeat' (first | refine rn ?_ | (refine zb ?_; intro _ _) | (refine za ?_; intro _ _) | (refine zs ?_; intro _ _))
  refine TC_loop (σ := Nat) (fun k => k ≤ l.length ∧ ∀ i x, i < k → l[i]? = some x → p x = false) (fun k => [(0, .slice ao l.length c), (1, .func (.func kf) #[] cl.toArray), (7, .int .i64 l.length), (8, .int .i64 k)]) (fun k => []) (fun k => l.length - k) 0 ⟨Nat.zero_le _, fun i x h => by omega⟩ sb (fun w h => h) (fun k hk => ?_)
  repeat' (first | refine rn ?_ | (refine zb ?_; intro _ _) | (refine za ?_; intro _ _) | (refine zs ?_; intro _ _))
  refine TC_cond_dec rfl (fun h1 => ?_) (fun h1 => ?_)
  · have hlt : k < l.length := by omega
    obtain ⟨x, hx⟩ : ∃ x, l[k]? = some x := ⟨_, List.getElem?_eq_getElem hlt⟩
    repeat' (first | refine rn ?_ | (refine zb ?_; intro _ _) | (refine za ?_; intro _ _) | (refine zs ?_; intro _ _))
    refine TL_index k rfl rfl rfl (fun w h => h.sl hsl) rfl hlt (Nat.le_refl _) ?_
    refine TL_load_eln (u := x) rfl rfl (fun w h => h.sl hsl) hx rfl ?_
    refine TL_callV rfl rfl rfl (fun w h => hcl x (List.mem_of_getElem? hx) w h.below) ?_
    repeat' (first | refine rn ?_ | (refine zb ?_; intro _ _) | (refine za ?_; intro _ _) | (refine zs ?_; intro _ _))
    refine TC_cond rfl (fun h2 => ?_) (fun h2 => ?_)
    · repeat' (first | refine rn ?_ | (refine zb ?_; intro _ _) | (refine za ?_; intro _ _) | (refine zs ?_; intro _ _))
      refine TQ_ret1 Tryz.results41 (RV.tmp rfl) (fun w' hs => ⟨by rw [fidx_at hx h2 hk.2], hs.below⟩)
    · repeat' (first | refine rn ?_ | (refine zb ?_; intro _ _) | (refine za ?_; intro _ _) | (refine zs ?_; intro _ _))
      refine TQ_round (k + 1) ⟨by omega, fun i y hi hy => ?_⟩ (by omega) sb (fun w h => h)
      rcases Nat.lt_or_ge i k with h | h
      · exact hk.2 i y h hy
      · have : i = k := by omega
        subst this; rw [hx] at hy; cases hy; exact h2
  · have hkl : k = l.length := by omega
    subst hkl
    repeat' (first | refine rn ?_ | (refine zb ?_; intro _ _) | (refine za ?_; intro _ _) | (refine zs ?_; intro _ _))
    refine TQ_ret1 Tryz.results41 (RV.tmp rfl) (fun w' hs => ⟨?_, hs.below⟩)
    rw [fidx_none (fun x hx => by
      obtain ⟨i, hi, rfl⟩ := List.getElem_of_mem hx
      exact hk.2 i _ hi (List.getElem?_eq_getElem hi))]

theorem c195 (p : Pc → Bool) (kf : FuncId) (cl : List Value) [EntP Tryz.prog kf] (l : List Pc) (ao : Option Addr) (c : Nat) (hn : Small l.length) (w : World)
    (hsl : Sl w 5 encPc ao l) (hcl : ∀ x ∈ l, ∀ w', Below w.heap.size w w' → Calls Tryz.prog kf (Value.agg (encPc x).toArray :: cl).toArray w' (RetV w' (.bool (p x)))) :
    Calls Tryz.prog 195 #[.slice ao l.length c, .func (.func kf) #[] cl.toArray] w (RetV w (.bool (l.any p))) := by
  refine enter (args := [.slice ao l.length c, .func (.func kf) #[] cl.toArray]) Tryz.func195 rfl Tryz.ntmps195 rfl (SH.refl _) ?_
  repeat' (first | refine rn ?_ | (refine zb ?_; intro _ _) | (refine za ?_; intro _ _) | (refine zs ?_; intro _ _))
  refine TL_callV rfl rfl rfl (fun w h => c41 p kf cl l ao c hn w (h.sl hsl) (fun x hx w' hb => hcl x hx w' (h.below.trans (hb.mono h.hB)))) ?_
  repeat' (first | refine rn ?_ | (refine zb ?_; intro _ _) | (refine za ?_; intro _ _) | (refine zs ?_; intro _ _))
  exact TQ_ret1 Tryz.results195 (RV.tmp rfl) (fun w' hs => ⟨by rw [fidx_any], hs.below⟩)

theorem c211 (p : Sp → Bool) (kf : FuncId) (cl : List Value) [EntP Tryz.prog kf] (l : List Sp) (ao : Option Addr) (c : Nat) (hn : Small l.length) (w : World)
    (hsl : Sl w 2 encSp ao l) (hcl : ∀ x ∈ l, ∀ w', Below w.heap.size w w' → Calls Tryz.prog kf (Value.agg (encSp x).toArray :: cl).toArray w' (RetV w' (.bool (p x)))) :
    Calls Tryz.prog 211 #[.slice ao l.length c, .func (.func kf) #[] cl.toArray] w (RetV w (.int .i64 (fidx p l))) := by
  unfold Small at hn
  refine enter (args := [.slice ao l.length c, .func (.func kf) #[] cl.toArray]) Tryz.func211 rfl Tryz.ntmps211 rfl (SH.refl _) ?_
  repeat' (first | refine rn ?_ | (refine zb ?_; intro _ _) | (refine za ?_; intro _ _) | (refine zs ?_; intro _ _))
  refine TC_loop (σ := Nat) (fun k => k ≤ l.length ∧ ∀ i x, i < k → l[i]? = some x → p x = false) (fun k => [(0, .slice ao l.length c), (1, .func (.func kf) #[] cl.toArray), (7, .int .i64 l.length), (8, .int .i64 k)]) (fun k => []) (fun k => l.length - k) 0 ⟨Nat.zero_le _, fun i x h => by omega⟩ sb (fun w h => h) (fun k hk => ?_)
  repeat' (first | refine rn ?_ | (refine zb ?_; intro _ _) | (refine za ?_; intro _ _) | (refine zs ?_; intro _ _))
  refine TC_cond_dec rfl (fun h1 => ?_) (fun h1 => ?_)
  · have hlt : k < l.length := by omega
    obtain ⟨x, hx⟩ : ∃ x, l[k]? = some x := ⟨_, List.getElem?_eq_getElem hlt⟩
    repeat' (first | refine rn ?_ | (refine zb ?_; intro _ _) | (refine za ?_; intro _ _) | (refine zs ?_; intro _ _))
    refine TL_index k rfl rfl rfl (fun w h => h.sl hsl) rfl hlt (Nat.le_refl _) ?_
    refine TL_load_eln (u := x) rfl rfl (fun w h => h.sl hsl) hx rfl ?_
    refine TL_callV rfl rfl rfl (fun w h => hcl x (List.mem_of_getElem? hx) w h.below) ?_
    repeat' (first | refine rn ?_ | (refine zb ?_; intro _ _) | (refine za ?_; intro _ _) | (refine zs ?_; intro _ _))
    refine TC_cond rfl (fun h2 => ?_) (fun h2 => ?_)
    · repeat' (first | refine rn ?_ | (refine zb ?_; intro _ _) | (refine za ?_; intro _ _) | (refine zs ?_; intro _ _))
      refine TQ_ret1 Tryz.results211 (RV.tmp rfl) (fun w' hs => ⟨by rw [fidx_at hx h2 hk.2], hs.below⟩)
    · repeat' (first | refine rn ?_ | (refine zb ?_; intro _ _) | (refine za ?_; intro _ _) | (refine zs ?_; intro _ _))
      refine TQ_round (k + 1) ⟨by omega, fun i y hi hy => ?_⟩ (by omega) sb (fun w h => h)
      rcases Nat.lt_or_ge i k with h | h
      · exact hk.2 i y h hy
      · have : i = k := by omega
        subst this; rw [hx] at hy; cases hy; exact h2
  · have hkl : k = l.length := by omega
    subst hkl
    repeat' (first | refine rn ?_ | (refine zb ?_; intro _ _) | (refine za ?_; intro _ _) | (refine zs ?_; intro _ _))
    refine TQ_ret1 Tryz.results211 (RV.tmp rfl) (fun w' hs => ⟨?_, hs.below⟩)
    rw [fidx_none (fun x hx => by
      obtain ⟨i, hi, rfl⟩ := List.getElem_of_mem hx
      exact hk.2 i _ hi (List.getElem?_eq_getElem hi))]

end Go.Proofs.YtkpkebpofpcmaaaGreatDoor
