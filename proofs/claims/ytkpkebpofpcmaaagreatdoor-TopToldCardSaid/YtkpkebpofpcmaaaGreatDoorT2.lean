/- Walks: slices.IndexFunc, ContainsFunc, hour.every, for turns and functions that turn what they captured. -/
import Derived.Test.YtkpkebpofpcmaaaGreatDoorEngR
import Derived.Test.YtkpkebpofpcmaaaGreatDoorT1
namespace Go.Proofs.YtkpkebpofpcmaaaGreatDoor
open Go Go.Eng Go.RowKit Go.Proofs
set_option maxHeartbeats 1000000
set_option maxRecDepth 10000
attribute [local irreducible] TL TC TQ

/-- The first place, from 0 on, at which p says yes; n if there is none. -/
def First (p : Nat → Bool) (n j : Nat) : Prop := j ≤ n ∧ (∀ i, i < j → p i = false) ∧ (j < n → p j = true)

theorem d70 {B : Nat} {w0 : World} (Hj : Nat → Hp) (p : Nat → Bool) (kf : FuncId) (cl : List Value) [EntP Tryz.prog kf] (l : List Sp) (ao : Option Addr) (c : Nat) (hn : l.length ≤ 4611686018427387904)
    (hsl : ∀ j w, SH B w0 w (Hj j) → Sl w 2 encSp ao l)
    (hcl : ∀ (j : Nat) x, l[j]? = some x → ∀ w, SH B w0 w (Hj j) → Calls Tryz.prog kf (Value.agg (encSp x).toArray :: cl).toArray w (RetP B w0 (fun _ : Unit => .bool (p j)) (fun _ => Hj (j + 1)) (fun _ => True)))
    (w : World) (hs : SH B w0 w (Hj 0)) :
    Calls Tryz.prog 70 #[.slice ao l.length c, .func (.func kf) #[] cl.toArray] w
      (RetP B w0 (fun x : Nat × Int => .int .i64 x.2) (fun x => Hj (min (x.1 + 1) l.length)) (fun x => First p l.length x.1 ∧ x.2 = if x.1 < l.length then (x.1 : Int) else -1)) := by
  refine enter (args := [.slice ao l.length c, .func (.func kf) #[] cl.toArray]) Tryz.func70 rfl Tryz.ntmps70 rfl hs ?_
  repeat' (first | refine rn ?_ | (refine zb ?_; intro _ _) | (refine za ?_; intro _ _) | (refine zs ?_; intro _ _))
  refine TC_loop (σ := Nat) (fun k => k ≤ l.length ∧ ∀ i, i < k → p i = false) (fun k => [(0, .slice ao l.length c), (1, .func (.func kf) #[] cl.toArray), (7, .int .i64 l.length), (8, .int .i64 k)]) (fun k => Hj k) (fun k => l.length - k) 0 ⟨Nat.zero_le _, fun i h => by omega⟩ sb (fun w h => h) (fun k hk => ?_)
  repeat' (first | refine rn ?_ | (refine zb ?_; intro _ _) | (refine za ?_; intro _ _) | (refine zs ?_; intro _ _))
  refine TC_cond_dec rfl (fun h1 => ?_) (fun h1 => ?_)
  · have hlt : k < l.length := by omega
    obtain ⟨x, hx⟩ : ∃ x, l[k]? = some x := ⟨_, List.getElem?_eq_getElem hlt⟩
    repeat' (first | refine rn ?_ | (refine zb ?_; intro _ _) | (refine za ?_; intro _ _) | (refine zs ?_; intro _ _))
    refine TL_index k rfl rfl rfl (hsl k) rfl hlt (Nat.le_refl _) ?_
    refine TL_load_eln (u := x) rfl rfl (hsl k) hx rfl ?_
    refine TL_call rfl rfl rfl (fun _ : Unit => .bool (p k)) (fun _ => Hj (k + 1)) (fun _ => True) (fun w hs => hcl k x hx w hs) (fun _ _ => ?_)
    repeat' (first | refine rn ?_ | (refine zb ?_; intro _ _) | (refine za ?_; intro _ _) | (refine zs ?_; intro _ _))
    refine TC_cond rfl (fun h2 => ?_) (fun h2 => ?_)
    · repeat' (first | refine rn ?_ | (refine zb ?_; intro _ _) | (refine za ?_; intro _ _) | (refine zs ?_; intro _ _))
      refine TQ_ret1 Tryz.results70 (RV.tmp rfl) (fun w' hs => ⟨(k, (k : Int)), ⟨⟨by omega, hk.2, fun _ => h2⟩, by simp [hlt]⟩, rfl, ?_⟩)
      simpa [show min (k + 1) l.length = k + 1 by omega] using hs
    · repeat' (first | refine rn ?_ | (refine zb ?_; intro _ _) | (refine za ?_; intro _ _) | (refine zs ?_; intro _ _))
      refine TQ_round (k + 1) ⟨by omega, fun i hi => ?_⟩ (by omega) sb (fun w h => h)
      rcases Nat.lt_or_ge i k with h | h
      · exact hk.2 i h
      · have : i = k := by omega
        subst this; exact h2
  · have hkl : k = l.length := by omega
    subst hkl
    repeat' (first | refine rn ?_ | (refine zb ?_; intro _ _) | (refine za ?_; intro _ _) | (refine zs ?_; intro _ _))
    refine TQ_ret1 Tryz.results70 (RV.tmp rfl) (fun w' hs => ⟨(l.length, -1), ⟨⟨Nat.le_refl _, hk.2, fun h => by omega⟩, by simp⟩, rfl, ?_⟩)
    simpa [show min (l.length + 1) l.length = l.length by omega] using hs

theorem d109 {B : Nat} {w0 : World} (Hj : Nat → Hp) (p : Nat → Bool) (kf : FuncId) (cl : List Value) [EntP Tryz.prog kf] (l : List Sp) (ao : Option Addr) (c : Nat) (hn : l.length ≤ 4611686018427387904)
    (hsl : ∀ j w, SH B w0 w (Hj j) → Sl w 2 encSp ao l)
    (hcl : ∀ (j : Nat) x, l[j]? = some x → ∀ w, SH B w0 w (Hj j) → Calls Tryz.prog kf (Value.agg (encSp x).toArray :: cl).toArray w (RetP B w0 (fun _ : Unit => .bool (p j)) (fun _ => Hj (j + 1)) (fun _ => True)))
    (w : World) (hs : SH B w0 w (Hj 0)) :
    Calls Tryz.prog 109 #[.slice ao l.length c, .func (.func kf) #[] cl.toArray] w
      (RetP B w0 (fun x : Nat => .bool (decide (x < l.length))) (fun x => Hj (min (x + 1) l.length)) (fun x => First p l.length x)) := by
  refine enter (args := [.slice ao l.length c, .func (.func kf) #[] cl.toArray]) Tryz.func109 rfl Tryz.ntmps109 rfl hs ?_
  repeat' (first | refine rn ?_ | (refine zb ?_; intro _ _) | (refine za ?_; intro _ _) | (refine zs ?_; intro _ _))
  refine TL_call rfl rfl rfl _ _ _ (fun w hs => d70 Hj p kf cl l ao c hn hsl hcl w hs) ?_
  rintro ⟨j, m⟩ ⟨hf, hm⟩
  dsimp only at hf hm ⊢
  repeat' (first | refine rn ?_ | (refine zb ?_; intro _ _) | (refine za ?_; intro _ _) | (refine zs ?_; intro _ _))
  refine TQ_ret1 Tryz.results109 (RV.tmp rfl) (fun w' hs => ⟨j, hf, ?_, hs⟩)
  have hj := hf.1
  have : (0 ≤ m) ↔ j < l.length := by
    rw [hm]; split <;> omega
  simp [this]

/-- every: no place at which q says no. -/
theorem d68 {B : Nat} {w0 : World} (Hj : Nat → Hp) (q : Nat → Bool) (kf : FuncId) (cl : List Value) [EntP Tryz.prog kf] (l : List Sp) (ao : Option Addr) (c : Nat) (hn : l.length ≤ 4611686018427387904)
    (hsl : ∀ j w, SH B w0 w (Hj j) → Sl w 2 encSp ao l)
    (hcl : ∀ (G : Hp) (j : Nat) x, l[j]? = some x → ∀ w, SH B w0 w (Hj j ++ G) → Calls Tryz.prog kf (Value.agg (encSp x).toArray :: cl).toArray w (RetP B w0 (fun _ : Unit => .bool (q j)) (fun _ => Hj (j + 1) ++ G) (fun _ => True)))
    (w : World) (hs : SH B w0 w (Hj 0)) :
    Calls Tryz.prog 68 #[.slice ao l.length c, .func (.func kf) #[] cl.toArray] w
      (RetP B w0 (fun x : Nat => .bool (decide (¬ x < l.length))) (fun x => Hj (min (x + 1) l.length)) (fun x => First (fun j => !q j) l.length x)) := by
  refine enter (args := [.slice ao l.length c, .func (.func kf) #[] cl.toArray]) Tryz.func68 rfl Tryz.ntmps68 rfl hs ?_
  repeat' (first | refine rn ?_ | (refine zb ?_; intro _ _) | (refine za ?_; intro _ _) | (refine zs ?_; intro _ _))
  rename_i b3 _
  refine TL_call rfl rfl rfl _ _ _ (fun w hs => d109 (fun j => (b3, .cells [.func (.func kf) #[] cl.toArray] 149) :: Hj j) (fun j => !q j) 110 [.pointer (some ⟨b3, 0, none⟩)] l ao c hn (fun j w h => hsl j w (h.sub (List.sublist_cons_self _ _))) ?_ w hs) ?_
  · intro j x hx w hs
    refine enter (args := [Value.agg (encSp x).toArray, .pointer (some ⟨b3, 0, none⟩)]) Tryz.func110 rfl Tryz.ntmps110 rfl hs ?_
    repeat' (first | refine rn ?_ | (refine zb ?_; intro _ _) | (refine za ?_; intro _ _) | (refine zs ?_; intro _ _))
    rename_i bx _
    refine TL_call rfl rfl rfl (fun _ : Unit => .bool (q j)) (fun _ => Hj (j + 1) ++ [(bx, Blk.cells (encSp x) 38), (b3, Blk.cells [.func (.func kf) #[] cl.toArray] 149)]) (fun _ => True) (fun w hs => hcl [(bx, Blk.cells (encSp x) 38), (b3, Blk.cells [.func (.func kf) #[] cl.toArray] 149)] j x hx w (hs.perm List.perm_append_comm)) (fun _ _ => ?_)
    repeat' (first | refine rn ?_ | (refine zb ?_; intro _ _) | (refine za ?_; intro _ _) | (refine zs ?_; intro _ _))
    exact TQ_ret1 Tryz.results110 (RV.tmp rfl) (fun w' hs => ⟨(), trivial, rfl, (hs.perm (List.perm_append_comm (l₁ := [(bx, Blk.cells (encSp x) 38), (b3, Blk.cells [.func (.func kf) #[] cl.toArray] 149)]))).sub (List.sublist_cons_self _ _)⟩)
  rintro j hf
  repeat' (first | refine rn ?_ | (refine zb ?_; intro _ _) | (refine za ?_; intro _ _) | (refine zs ?_; intro _ _))
  exact TQ_ret1 Tryz.results68 (RV.tmp rfl) (fun w' hs => ⟨j, hf, rfl, hs.sub (List.sublist_cons_self _ _)⟩)
end Go.Proofs.YtkpkebpofpcmaaaGreatDoor
