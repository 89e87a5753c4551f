/- Walks: slices.IndexFunc, ContainsFunc, date.every, for numbers, spans and seasons. -/
import Derived.Test.YtccgplomnjpniaaD0
namespace Go.Proofs.Ytccgplomnjpniaa
open Go Go.Eng Go.RowKit Go.Proofs
set_option maxHeartbeats 1000000
set_option maxRecDepth 10000
attribute [local irreducible] TL TC TQ

/-- The first place, from 0 on, at which p says yes; n if there is none. -/
def First (p : Nat → Bool) (n j : Nat) : Prop := j ≤ n ∧ (∀ i, i < j → p i = false) ∧ (j < n → p j = true)

theorem c94 {B : Nat} {w0 : World} (Hj : Nat → Hp) (p : Nat → Bool) (kf : FuncId) (cl : List Value) [EntP Try.prog kf] (l : List Int) (ao : Option Addr) (c : Nat) (hn : l.length ≤ 4611686018427387904)
    (hsl : ∀ j w, SH B w0 w (Hj j) → Sl w 1 encI ao l)
    (hcl : ∀ (j : Nat) x, l[j]? = some x → ∀ w, SH B w0 w (Hj j) → Calls Try.prog kf (Value.int .i64 x :: cl).toArray w (RetP B w0 (fun _ : Unit => .bool (p j)) (fun _ => Hj (j + 1)) (fun _ => True)))
    (w : World) (hs : SH B w0 w (Hj 0)) :
    Calls Try.prog 94 #[.slice ao l.length c, .func (.func kf) #[] cl.toArray] w
      (RetP B w0 (fun x : Nat × Int => .int .i64 x.2) (fun x => Hj (min (x.1 + 1) l.length)) (fun x => First p l.length x.1 ∧ x.2 = if x.1 < l.length then (x.1 : Int) else -1)) := by
  refine enter (args := [.slice ao l.length c, .func (.func kf) #[] cl.toArray]) Try.func94 rfl Try.ntmps94 rfl hs ?_
  repeat' (first | refine rn ?_ | (apply TL_box; exact rfl; exact rfl; exact rfl; intro _ _) | (apply TL_alloc; exact rfl; intro _ _) | (apply TL_buildSlice; exact rfl; exact rfl; exact rfl; exact rfl; exact rfl; intro _ _))
  refine TC_loop (σ := Nat) (fun k => k ≤ l.length ∧ ∀ i, i < k → p i = false) (fun k => [(0, .slice ao l.length c), (1, .func (.func kf) #[] cl.toArray), (7, .int .i64 l.length), (8, .int .i64 k)]) (fun k => Hj k) (fun k => l.length - k) 0 ⟨Nat.zero_le _, fun i h => by omega⟩ sb (fun w h => h) (fun k hk => ?_)
  repeat' (first | refine rn ?_ | (apply TL_box; exact rfl; exact rfl; exact rfl; intro _ _) | (apply TL_alloc; exact rfl; intro _ _) | (apply TL_buildSlice; exact rfl; exact rfl; exact rfl; exact rfl; exact rfl; intro _ _))
  refine TC_cond_dec rfl (fun h1 => ?_) (fun h1 => ?_)
  · have hlt : k < l.length := by omega
    obtain ⟨x, hx⟩ : ∃ x, l[k]? = some x := ⟨_, List.getElem?_eq_getElem hlt⟩
    repeat' (first | refine rn ?_ | (apply TL_box; exact rfl; exact rfl; exact rfl; intro _ _) | (apply TL_alloc; exact rfl; intro _ _) | (apply TL_buildSlice; exact rfl; exact rfl; exact rfl; exact rfl; exact rfl; intro _ _))
    refine TL_index k rfl rfl rfl (hsl k) rfl hlt (Nat.le_refl _) ?_
    refine TL_load_el1 (u := x) rfl rfl (hsl k) hx rfl ?_
    refine TL_call rfl rfl rfl (fun _ : Unit => .bool (p k)) (fun _ => Hj (k + 1)) (fun _ => True) (fun w hs => hcl k x hx w hs) (fun _ _ => ?_)
    repeat' (first | refine rn ?_ | (apply TL_box; exact rfl; exact rfl; exact rfl; intro _ _) | (apply TL_alloc; exact rfl; intro _ _) | (apply TL_buildSlice; exact rfl; exact rfl; exact rfl; exact rfl; exact rfl; intro _ _))
    refine TC_cond rfl (fun h2 => ?_) (fun h2 => ?_)
    · repeat' (first | refine rn ?_ | (apply TL_box; exact rfl; exact rfl; exact rfl; intro _ _) | (apply TL_alloc; exact rfl; intro _ _) | (apply TL_buildSlice; exact rfl; exact rfl; exact rfl; exact rfl; exact rfl; intro _ _))
      refine TQ_ret1 Try.results94 (RV.tmp rfl) (fun w' hs => ⟨(k, (k : Int)), ⟨⟨by omega, hk.2, fun _ => h2⟩, by simp [hlt]⟩, rfl, ?_⟩)
      simpa [show min (k + 1) l.length = k + 1 by omega] using hs
    · repeat' (first | refine rn ?_ | (apply TL_box; exact rfl; exact rfl; exact rfl; intro _ _) | (apply TL_alloc; exact rfl; intro _ _) | (apply TL_buildSlice; exact rfl; exact rfl; exact rfl; exact rfl; exact rfl; intro _ _))
      refine TQ_round (k + 1) ⟨by omega, fun i hi => ?_⟩ (by omega) sb (fun w h => h)
      rcases Nat.lt_or_ge i k with h | h
      · exact hk.2 i h
      · have : i = k := by omega
        subst this; exact h2
  · have hkl : k = l.length := by omega
    subst hkl
    repeat' (first | refine rn ?_ | (apply TL_box; exact rfl; exact rfl; exact rfl; intro _ _) | (apply TL_alloc; exact rfl; intro _ _) | (apply TL_buildSlice; exact rfl; exact rfl; exact rfl; exact rfl; exact rfl; intro _ _))
    refine TQ_ret1 Try.results94 (RV.tmp rfl) (fun w' hs => ⟨(l.length, -1), ⟨⟨Nat.le_refl _, hk.2, fun h => by omega⟩, by simp⟩, rfl, ?_⟩)
    simpa [show min (l.length + 1) l.length = l.length by omega] using hs

theorem c77 {B : Nat} {w0 : World} (Hj : Nat → Hp) (p : Nat → Bool) (kf : FuncId) (cl : List Value) [EntP Try.prog kf] (l : List Int) (ao : Option Addr) (c : Nat) (hn : l.length ≤ 4611686018427387904)
    (hsl : ∀ j w, SH B w0 w (Hj j) → Sl w 1 encI ao l)
    (hcl : ∀ (j : Nat) x, l[j]? = some x → ∀ w, SH B w0 w (Hj j) → Calls Try.prog kf (Value.int .i64 x :: cl).toArray w (RetP B w0 (fun _ : Unit => .bool (p j)) (fun _ => Hj (j + 1)) (fun _ => True)))
    (w : World) (hs : SH B w0 w (Hj 0)) :
    Calls Try.prog 77 #[.slice ao l.length c, .func (.func kf) #[] cl.toArray] w
      (RetP B w0 (fun x : Nat => .bool (decide (x < l.length))) (fun x => Hj (min (x + 1) l.length)) (fun x => First p l.length x)) := by
  refine enter (args := [.slice ao l.length c, .func (.func kf) #[] cl.toArray]) Try.func77 rfl Try.ntmps77 rfl hs ?_
  repeat' (first | refine rn ?_ | (apply TL_box; exact rfl; exact rfl; exact rfl; intro _ _) | (apply TL_alloc; exact rfl; intro _ _) | (apply TL_buildSlice; exact rfl; exact rfl; exact rfl; exact rfl; exact rfl; intro _ _))
  refine TL_call rfl rfl rfl _ _ _ (fun w hs => c94 Hj p kf cl l ao c hn hsl hcl w hs) ?_
  rintro ⟨j, m⟩ ⟨hf, hm⟩
  dsimp only at hf hm ⊢
  repeat' (first | refine rn ?_ | (apply TL_box; exact rfl; exact rfl; exact rfl; intro _ _) | (apply TL_alloc; exact rfl; intro _ _) | (apply TL_buildSlice; exact rfl; exact rfl; exact rfl; exact rfl; exact rfl; intro _ _))
  refine TQ_ret1 Try.results77 (RV.tmp rfl) (fun w' hs => ⟨j, hf, ?_, hs⟩)
  have hj := hf.1
  have : (0 ≤ m) ↔ j < l.length := by
    rw [hm]; split <;> omega
  simp [this]

/-- every: no place at which q says no. -/
theorem c59 {B : Nat} {w0 : World} (Hj : Nat → Hp) (q : Nat → Bool) (kf : FuncId) (cl : List Value) [EntP Try.prog kf] (l : List Int) (ao : Option Addr) (c : Nat) (hn : l.length ≤ 4611686018427387904)
    (hsl : ∀ j w, SH B w0 w (Hj j) → Sl w 1 encI ao l)
    (hcl : ∀ (G : Hp) (j : Nat) x, l[j]? = some x → ∀ w, SH B w0 w (Hj j ++ G) → Calls Try.prog kf (Value.int .i64 x :: cl).toArray w (RetP B w0 (fun _ : Unit => .bool (q j)) (fun _ => Hj (j + 1) ++ G) (fun _ => True)))
    (w : World) (hs : SH B w0 w (Hj 0)) :
    Calls Try.prog 59 #[.slice ao l.length c, .func (.func kf) #[] cl.toArray] w
      (RetP B w0 (fun x : Nat => .bool (decide (¬ x < l.length))) (fun x => Hj (min (x + 1) l.length)) (fun x => First (fun j => !q j) l.length x)) := by
  refine enter (args := [.slice ao l.length c, .func (.func kf) #[] cl.toArray]) Try.func59 rfl Try.ntmps59 rfl hs ?_
  repeat' (first | refine rn ?_ | (apply TL_box; exact rfl; exact rfl; exact rfl; intro _ _) | (apply TL_alloc; exact rfl; intro _ _) | (apply TL_buildSlice; exact rfl; exact rfl; exact rfl; exact rfl; exact rfl; intro _ _))
  rename_i b3 _
  refine TL_call rfl rfl rfl _ _ _ (fun w hs => c77 (fun j => (b3, .cells [.func (.func kf) #[] cl.toArray] 103) :: Hj j) (fun j => !q j) 78 [.pointer (some ⟨b3, 0, none⟩)] l ao c hn (fun j w h => hsl j w (h.sub (List.sublist_cons_self _ _))) ?_ w hs) ?_
  · intro j x hx w hs
    refine enter (args := [Value.int .i64 x, .pointer (some ⟨b3, 0, none⟩)]) Try.func78 rfl Try.ntmps78 rfl hs ?_
    repeat' (first | refine rn ?_ | (apply TL_box; exact rfl; exact rfl; exact rfl; intro _ _) | (apply TL_alloc; exact rfl; intro _ _) | (apply TL_buildSlice; exact rfl; exact rfl; exact rfl; exact rfl; exact rfl; intro _ _))
    refine TL_call rfl rfl rfl (fun _ : Unit => .bool (q j)) (fun _ => Hj (j + 1) ++ [(b3, Blk.cells [.func (.func kf) #[] cl.toArray] 103)]) (fun _ => True) (fun w hs => hcl [(b3, Blk.cells [.func (.func kf) #[] cl.toArray] 103)] j x hx w (hs.perm List.perm_append_comm)) (fun _ _ => ?_)
    repeat' (first | refine rn ?_ | (apply TL_box; exact rfl; exact rfl; exact rfl; intro _ _) | (apply TL_alloc; exact rfl; intro _ _) | (apply TL_buildSlice; exact rfl; exact rfl; exact rfl; exact rfl; exact rfl; intro _ _))
    exact TQ_ret1 Try.results78 (RV.tmp rfl) (fun w' hs => ⟨(), trivial, rfl, (hs.perm (List.perm_append_comm (l₁ := [(b3, Blk.cells [.func (.func kf) #[] cl.toArray] 103)]))).sub (List.Sublist.refl _)⟩)
  rintro j hf
  repeat' (first | refine rn ?_ | (apply TL_box; exact rfl; exact rfl; exact rfl; intro _ _) | (apply TL_alloc; exact rfl; intro _ _) | (apply TL_buildSlice; exact rfl; exact rfl; exact rfl; exact rfl; exact rfl; intro _ _))
  exact TQ_ret1 Try.results59 (RV.tmp rfl) (fun w' hs => ⟨j, hf, rfl, hs.sub (List.sublist_cons_self _ _)⟩)

theorem c104 {B : Nat} {w0 : World} (Hj : Nat → Hp) (p : Nat → Bool) (kf : FuncId) (cl : List Value) [EntP Try.prog kf] (l : List Sp) (ao : Option Addr) (c : Nat) (hn : l.length ≤ 4611686018427387904)
    (hsl : ∀ j w, SH B w0 w (Hj j) → Sl w 2 encSp ao l)
    (hcl : ∀ (j : Nat) x, l[j]? = some x → ∀ w, SH B w0 w (Hj j) → Calls Try.prog kf (Value.agg (encSp x).toArray :: cl).toArray w (RetP B w0 (fun _ : Unit => .bool (p j)) (fun _ => Hj (j + 1)) (fun _ => True)))
    (w : World) (hs : SH B w0 w (Hj 0)) :
    Calls Try.prog 104 #[.slice ao l.length c, .func (.func kf) #[] cl.toArray] w
      (RetP B w0 (fun x : Nat × Int => .int .i64 x.2) (fun x => Hj (min (x.1 + 1) l.length)) (fun x => First p l.length x.1 ∧ x.2 = if x.1 < l.length then (x.1 : Int) else -1)) := by
  refine enter (args := [.slice ao l.length c, .func (.func kf) #[] cl.toArray]) Try.func104 rfl Try.ntmps104 rfl hs ?_
  repeat' (first | refine rn ?_ | (apply TL_box; exact rfl; exact rfl; exact rfl; intro _ _) | (apply TL_alloc; exact rfl; intro _ _) | (apply TL_buildSlice; exact rfl; exact rfl; exact rfl; exact rfl; exact rfl; intro _ _))
  refine TC_loop (σ := Nat) (fun k => k ≤ l.length ∧ ∀ i, i < k → p i = false) (fun k => [(0, .slice ao l.length c), (1, .func (.func kf) #[] cl.toArray), (7, .int .i64 l.length), (8, .int .i64 k)]) (fun k => Hj k) (fun k => l.length - k) 0 ⟨Nat.zero_le _, fun i h => by omega⟩ sb (fun w h => h) (fun k hk => ?_)
  repeat' (first | refine rn ?_ | (apply TL_box; exact rfl; exact rfl; exact rfl; intro _ _) | (apply TL_alloc; exact rfl; intro _ _) | (apply TL_buildSlice; exact rfl; exact rfl; exact rfl; exact rfl; exact rfl; intro _ _))
  refine TC_cond_dec rfl (fun h1 => ?_) (fun h1 => ?_)
  · have hlt : k < l.length := by omega
    obtain ⟨x, hx⟩ : ∃ x, l[k]? = some x := ⟨_, List.getElem?_eq_getElem hlt⟩
    repeat' (first | refine rn ?_ | (apply TL_box; exact rfl; exact rfl; exact rfl; intro _ _) | (apply TL_alloc; exact rfl; intro _ _) | (apply TL_buildSlice; exact rfl; exact rfl; exact rfl; exact rfl; exact rfl; intro _ _))
    refine TL_index k rfl rfl rfl (hsl k) rfl hlt (Nat.le_refl _) ?_
    refine TL_load_eln (u := x) rfl rfl (hsl k) hx rfl ?_
    refine TL_call rfl rfl rfl (fun _ : Unit => .bool (p k)) (fun _ => Hj (k + 1)) (fun _ => True) (fun w hs => hcl k x hx w hs) (fun _ _ => ?_)
    repeat' (first | refine rn ?_ | (apply TL_box; exact rfl; exact rfl; exact rfl; intro _ _) | (apply TL_alloc; exact rfl; intro _ _) | (apply TL_buildSlice; exact rfl; exact rfl; exact rfl; exact rfl; exact rfl; intro _ _))
    refine TC_cond rfl (fun h2 => ?_) (fun h2 => ?_)
    · repeat' (first | refine rn ?_ | (apply TL_box; exact rfl; exact rfl; exact rfl; intro _ _) | (apply TL_alloc; exact rfl; intro _ _) | (apply TL_buildSlice; exact rfl; exact rfl; exact rfl; exact rfl; exact rfl; intro _ _))
      refine TQ_ret1 Try.results104 (RV.tmp rfl) (fun w' hs => ⟨(k, (k : Int)), ⟨⟨by omega, hk.2, fun _ => h2⟩, by simp [hlt]⟩, rfl, ?_⟩)
      simpa [show min (k + 1) l.length = k + 1 by omega] using hs
    · repeat' (first | refine rn ?_ | (apply TL_box; exact rfl; exact rfl; exact rfl; intro _ _) | (apply TL_alloc; exact rfl; intro _ _) | (apply TL_buildSlice; exact rfl; exact rfl; exact rfl; exact rfl; exact rfl; intro _ _))
      refine TQ_round (k + 1) ⟨by omega, fun i hi => ?_⟩ (by omega) sb (fun w h => h)
      rcases Nat.lt_or_ge i k with h | h
      · exact hk.2 i h
      · have : i = k := by omega
        subst this; exact h2
  · have hkl : k = l.length := by omega
    subst hkl
    repeat' (first | refine rn ?_ | (apply TL_box; exact rfl; exact rfl; exact rfl; intro _ _) | (apply TL_alloc; exact rfl; intro _ _) | (apply TL_buildSlice; exact rfl; exact rfl; exact rfl; exact rfl; exact rfl; intro _ _))
    refine TQ_ret1 Try.results104 (RV.tmp rfl) (fun w' hs => ⟨(l.length, -1), ⟨⟨Nat.le_refl _, hk.2, fun h => by omega⟩, by simp⟩, rfl, ?_⟩)
    simpa [show min (l.length + 1) l.length = l.length by omega] using hs

theorem c99 {B : Nat} {w0 : World} (Hj : Nat → Hp) (p : Nat → Bool) (kf : FuncId) (cl : List Value) [EntP Try.prog kf] (l : List Sp) (ao : Option Addr) (c : Nat) (hn : l.length ≤ 4611686018427387904)
    (hsl : ∀ j w, SH B w0 w (Hj j) → Sl w 2 encSp ao l)
    (hcl : ∀ (j : Nat) x, l[j]? = some x → ∀ w, SH B w0 w (Hj j) → Calls Try.prog kf (Value.agg (encSp x).toArray :: cl).toArray w (RetP B w0 (fun _ : Unit => .bool (p j)) (fun _ => Hj (j + 1)) (fun _ => True)))
    (w : World) (hs : SH B w0 w (Hj 0)) :
    Calls Try.prog 99 #[.slice ao l.length c, .func (.func kf) #[] cl.toArray] w
      (RetP B w0 (fun x : Nat => .bool (decide (x < l.length))) (fun x => Hj (min (x + 1) l.length)) (fun x => First p l.length x)) := by
  refine enter (args := [.slice ao l.length c, .func (.func kf) #[] cl.toArray]) Try.func99 rfl Try.ntmps99 rfl hs ?_
  repeat' (first | refine rn ?_ | (apply TL_box; exact rfl; exact rfl; exact rfl; intro _ _) | (apply TL_alloc; exact rfl; intro _ _) | (apply TL_buildSlice; exact rfl; exact rfl; exact rfl; exact rfl; exact rfl; intro _ _))
  refine TL_call rfl rfl rfl _ _ _ (fun w hs => c104 Hj p kf cl l ao c hn hsl hcl w hs) ?_
  rintro ⟨j, m⟩ ⟨hf, hm⟩
  dsimp only at hf hm ⊢
  repeat' (first | refine rn ?_ | (apply TL_box; exact rfl; exact rfl; exact rfl; intro _ _) | (apply TL_alloc; exact rfl; intro _ _) | (apply TL_buildSlice; exact rfl; exact rfl; exact rfl; exact rfl; exact rfl; intro _ _))
  refine TQ_ret1 Try.results99 (RV.tmp rfl) (fun w' hs => ⟨j, hf, ?_, hs⟩)
  have hj := hf.1
  have : (0 ≤ m) ↔ j < l.length := by
    rw [hm]; split <;> omega
  simp [this]

/-- every: no place at which q says no. -/
theorem c87 {B : Nat} {w0 : World} (Hj : Nat → Hp) (q : Nat → Bool) (kf : FuncId) (cl : List Value) [EntP Try.prog kf] (l : List Sp) (ao : Option Addr) (c : Nat) (hn : l.length ≤ 4611686018427387904)
    (hsl : ∀ j w, SH B w0 w (Hj j) → Sl w 2 encSp ao l)
    (hcl : ∀ (G : Hp) (j : Nat) x, l[j]? = some x → ∀ w, SH B w0 w (Hj j ++ G) → Calls Try.prog kf (Value.agg (encSp x).toArray :: cl).toArray w (RetP B w0 (fun _ : Unit => .bool (q j)) (fun _ => Hj (j + 1) ++ G) (fun _ => True)))
    (w : World) (hs : SH B w0 w (Hj 0)) :
    Calls Try.prog 87 #[.slice ao l.length c, .func (.func kf) #[] cl.toArray] w
      (RetP B w0 (fun x : Nat => .bool (decide (¬ x < l.length))) (fun x => Hj (min (x + 1) l.length)) (fun x => First (fun j => !q j) l.length x)) := by
  refine enter (args := [.slice ao l.length c, .func (.func kf) #[] cl.toArray]) Try.func87 rfl Try.ntmps87 rfl hs ?_
  repeat' (first | refine rn ?_ | (apply TL_box; exact rfl; exact rfl; exact rfl; intro _ _) | (apply TL_alloc; exact rfl; intro _ _) | (apply TL_buildSlice; exact rfl; exact rfl; exact rfl; exact rfl; exact rfl; intro _ _))
  rename_i b3 _
  refine TL_call rfl rfl rfl _ _ _ (fun w hs => c99 (fun j => (b3, .cells [.func (.func kf) #[] cl.toArray] 141) :: Hj j) (fun j => !q j) 100 [.pointer (some ⟨b3, 0, none⟩)] l ao c hn (fun j w h => hsl j w (h.sub (List.sublist_cons_self _ _))) ?_ w hs) ?_
  · intro j x hx w hs
    refine enter (args := [Value.agg (encSp x).toArray, .pointer (some ⟨b3, 0, none⟩)]) Try.func100 rfl Try.ntmps100 rfl hs ?_
    repeat' (first | refine rn ?_ | (apply TL_box; exact rfl; exact rfl; exact rfl; intro _ _) | (apply TL_alloc; exact rfl; intro _ _) | (apply TL_buildSlice; exact rfl; exact rfl; exact rfl; exact rfl; exact rfl; intro _ _))
    rename_i bx _
    refine TL_call rfl rfl rfl (fun _ : Unit => .bool (q j)) (fun _ => Hj (j + 1) ++ [(bx, Blk.cells (encSp x) 23), (b3, Blk.cells [.func (.func kf) #[] cl.toArray] 141)]) (fun _ => True) (fun w hs => hcl [(bx, Blk.cells (encSp x) 23), (b3, Blk.cells [.func (.func kf) #[] cl.toArray] 141)] j x hx w (hs.perm List.perm_append_comm)) (fun _ _ => ?_)
    repeat' (first | refine rn ?_ | (apply TL_box; exact rfl; exact rfl; exact rfl; intro _ _) | (apply TL_alloc; exact rfl; intro _ _) | (apply TL_buildSlice; exact rfl; exact rfl; exact rfl; exact rfl; exact rfl; intro _ _))
    exact TQ_ret1 Try.results100 (RV.tmp rfl) (fun w' hs => ⟨(), trivial, rfl, (hs.perm (List.perm_append_comm (l₁ := [(bx, Blk.cells (encSp x) 23), (b3, Blk.cells [.func (.func kf) #[] cl.toArray] 141)]))).sub (List.sublist_cons_self _ _)⟩)
  rintro j hf
  repeat' (first | refine rn ?_ | (apply TL_box; exact rfl; exact rfl; exact rfl; intro _ _) | (apply TL_alloc; exact rfl; intro _ _) | (apply TL_buildSlice; exact rfl; exact rfl; exact rfl; exact rfl; exact rfl; intro _ _))
  exact TQ_ret1 Try.results87 (RV.tmp rfl) (fun w' hs => ⟨j, hf, rfl, hs.sub (List.sublist_cons_self _ _)⟩)

theorem c101 {B : Nat} {w0 : World} (Hj : Nat → Hp) (p : Nat → Bool) (kf : FuncId) (cl : List Value) [EntP Try.prog kf] (l : List Sn) (ao : Option Addr) (c : Nat) (hn : l.length ≤ 4611686018427387904)
    (hsl : ∀ j w, SH B w0 w (Hj j) → Sl w 3 encSn ao l)
    (hcl : ∀ (j : Nat) x, l[j]? = some x → ∀ w, SH B w0 w (Hj j) → Calls Try.prog kf (Value.agg (encSn x).toArray :: cl).toArray w (RetP B w0 (fun _ : Unit => .bool (p j)) (fun _ => Hj (j + 1)) (fun _ => True)))
    (w : World) (hs : SH B w0 w (Hj 0)) :
    Calls Try.prog 101 #[.slice ao l.length c, .func (.func kf) #[] cl.toArray] w
      (RetP B w0 (fun x : Nat × Int => .int .i64 x.2) (fun x => Hj (min (x.1 + 1) l.length)) (fun x => First p l.length x.1 ∧ x.2 = if x.1 < l.length then (x.1 : Int) else -1)) := by
  refine enter (args := [.slice ao l.length c, .func (.func kf) #[] cl.toArray]) Try.func101 rfl Try.ntmps101 rfl hs ?_
  repeat' (first | refine rn ?_ | (apply TL_box; exact rfl; exact rfl; exact rfl; intro _ _) | (apply TL_alloc; exact rfl; intro _ _) | (apply TL_buildSlice; exact rfl; exact rfl; exact rfl; exact rfl; exact rfl; intro _ _))
  refine TC_loop (σ := Nat) (fun k => k ≤ l.length ∧ ∀ i, i < k → p i = false) (fun k => [(0, .slice ao l.length c), (1, .func (.func kf) #[] cl.toArray), (7, .int .i64 l.length), (8, .int .i64 k)]) (fun k => Hj k) (fun k => l.length - k) 0 ⟨Nat.zero_le _, fun i h => by omega⟩ sb (fun w h => h) (fun k hk => ?_)
  repeat' (first | refine rn ?_ | (apply TL_box; exact rfl; exact rfl; exact rfl; intro _ _) | (apply TL_alloc; exact rfl; intro _ _) | (apply TL_buildSlice; exact rfl; exact rfl; exact rfl; exact rfl; exact rfl; intro _ _))
  refine TC_cond_dec rfl (fun h1 => ?_) (fun h1 => ?_)
  · have hlt : k < l.length := by omega
    obtain ⟨x, hx⟩ : ∃ x, l[k]? = some x := ⟨_, List.getElem?_eq_getElem hlt⟩
    repeat' (first | refine rn ?_ | (apply TL_box; exact rfl; exact rfl; exact rfl; intro _ _) | (apply TL_alloc; exact rfl; intro _ _) | (apply TL_buildSlice; exact rfl; exact rfl; exact rfl; exact rfl; exact rfl; intro _ _))
    refine TL_index k rfl rfl rfl (hsl k) rfl hlt (Nat.le_refl _) ?_
    refine TL_load_eln (u := x) rfl rfl (hsl k) hx rfl ?_
    refine TL_call rfl rfl rfl (fun _ : Unit => .bool (p k)) (fun _ => Hj (k + 1)) (fun _ => True) (fun w hs => hcl k x hx w hs) (fun _ _ => ?_)
    repeat' (first | refine rn ?_ | (apply TL_box; exact rfl; exact rfl; exact rfl; intro _ _) | (apply TL_alloc; exact rfl; intro _ _) | (apply TL_buildSlice; exact rfl; exact rfl; exact rfl; exact rfl; exact rfl; intro _ _))
    refine TC_cond rfl (fun h2 => ?_) (fun h2 => ?_)
    · repeat' (first | refine rn ?_ | (apply TL_box; exact rfl; exact rfl; exact rfl; intro _ _) | (apply TL_alloc; exact rfl; intro _ _) | (apply TL_buildSlice; exact rfl; exact rfl; exact rfl; exact rfl; exact rfl; intro _ _))
      refine TQ_ret1 Try.results101 (RV.tmp rfl) (fun w' hs => ⟨(k, (k : Int)), ⟨⟨by omega, hk.2, fun _ => h2⟩, by simp [hlt]⟩, rfl, ?_⟩)
      simpa [show min (k + 1) l.length = k + 1 by omega] using hs
    · repeat' (first | refine rn ?_ | (apply TL_box; exact rfl; exact rfl; exact rfl; intro _ _) | (apply TL_alloc; exact rfl; intro _ _) | (apply TL_buildSlice; exact rfl; exact rfl; exact rfl; exact rfl; exact rfl; intro _ _))
      refine TQ_round (k + 1) ⟨by omega, fun i hi => ?_⟩ (by omega) sb (fun w h => h)
      rcases Nat.lt_or_ge i k with h | h
      · exact hk.2 i h
      · have : i = k := by omega
        subst this; exact h2
  · have hkl : k = l.length := by omega
    subst hkl
    repeat' (first | refine rn ?_ | (apply TL_box; exact rfl; exact rfl; exact rfl; intro _ _) | (apply TL_alloc; exact rfl; intro _ _) | (apply TL_buildSlice; exact rfl; exact rfl; exact rfl; exact rfl; exact rfl; intro _ _))
    refine TQ_ret1 Try.results101 (RV.tmp rfl) (fun w' hs => ⟨(l.length, -1), ⟨⟨Nat.le_refl _, hk.2, fun h => by omega⟩, by simp⟩, rfl, ?_⟩)
    simpa [show min (l.length + 1) l.length = l.length by omega] using hs

theorem c89 {B : Nat} {w0 : World} (Hj : Nat → Hp) (p : Nat → Bool) (kf : FuncId) (cl : List Value) [EntP Try.prog kf] (l : List Sn) (ao : Option Addr) (c : Nat) (hn : l.length ≤ 4611686018427387904)
    (hsl : ∀ j w, SH B w0 w (Hj j) → Sl w 3 encSn ao l)
    (hcl : ∀ (j : Nat) x, l[j]? = some x → ∀ w, SH B w0 w (Hj j) → Calls Try.prog kf (Value.agg (encSn x).toArray :: cl).toArray w (RetP B w0 (fun _ : Unit => .bool (p j)) (fun _ => Hj (j + 1)) (fun _ => True)))
    (w : World) (hs : SH B w0 w (Hj 0)) :
    Calls Try.prog 89 #[.slice ao l.length c, .func (.func kf) #[] cl.toArray] w
      (RetP B w0 (fun x : Nat => .bool (decide (x < l.length))) (fun x => Hj (min (x + 1) l.length)) (fun x => First p l.length x)) := by
  refine enter (args := [.slice ao l.length c, .func (.func kf) #[] cl.toArray]) Try.func89 rfl Try.ntmps89 rfl hs ?_
  repeat' (first | refine rn ?_ | (apply TL_box; exact rfl; exact rfl; exact rfl; intro _ _) | (apply TL_alloc; exact rfl; intro _ _) | (apply TL_buildSlice; exact rfl; exact rfl; exact rfl; exact rfl; exact rfl; intro _ _))
  refine TL_call rfl rfl rfl _ _ _ (fun w hs => c101 Hj p kf cl l ao c hn hsl hcl w hs) ?_
  rintro ⟨j, m⟩ ⟨hf, hm⟩
  dsimp only at hf hm ⊢
  repeat' (first | refine rn ?_ | (apply TL_box; exact rfl; exact rfl; exact rfl; intro _ _) | (apply TL_alloc; exact rfl; intro _ _) | (apply TL_buildSlice; exact rfl; exact rfl; exact rfl; exact rfl; exact rfl; intro _ _))
  refine TQ_ret1 Try.results89 (RV.tmp rfl) (fun w' hs => ⟨j, hf, ?_, hs⟩)
  have hj := hf.1
  have : (0 ≤ m) ↔ j < l.length := by
    rw [hm]; split <;> omega
  simp [this]

/-- every: no place at which q says no. -/
theorem c70 {B : Nat} {w0 : World} (Hj : Nat → Hp) (q : Nat → Bool) (kf : FuncId) (cl : List Value) [EntP Try.prog kf] (l : List Sn) (ao : Option Addr) (c : Nat) (hn : l.length ≤ 4611686018427387904)
    (hsl : ∀ j w, SH B w0 w (Hj j) → Sl w 3 encSn ao l)
    (hcl : ∀ (G : Hp) (j : Nat) x, l[j]? = some x → ∀ w, SH B w0 w (Hj j ++ G) → Calls Try.prog kf (Value.agg (encSn x).toArray :: cl).toArray w (RetP B w0 (fun _ : Unit => .bool (q j)) (fun _ => Hj (j + 1) ++ G) (fun _ => True)))
    (w : World) (hs : SH B w0 w (Hj 0)) :
    Calls Try.prog 70 #[.slice ao l.length c, .func (.func kf) #[] cl.toArray] w
      (RetP B w0 (fun x : Nat => .bool (decide (¬ x < l.length))) (fun x => Hj (min (x + 1) l.length)) (fun x => First (fun j => !q j) l.length x)) := by
  refine enter (args := [.slice ao l.length c, .func (.func kf) #[] cl.toArray]) Try.func70 rfl Try.ntmps70 rfl hs ?_
  repeat' (first | refine rn ?_ | (apply TL_box; exact rfl; exact rfl; exact rfl; intro _ _) | (apply TL_alloc; exact rfl; intro _ _) | (apply TL_buildSlice; exact rfl; exact rfl; exact rfl; exact rfl; exact rfl; intro _ _))
  rename_i b3 _
  refine TL_call rfl rfl rfl _ _ _ (fun w hs => c89 (fun j => (b3, .cells [.func (.func kf) #[] cl.toArray] 118) :: Hj j) (fun j => !q j) 90 [.pointer (some ⟨b3, 0, none⟩)] l ao c hn (fun j w h => hsl j w (h.sub (List.sublist_cons_self _ _))) ?_ w hs) ?_
  · intro j x hx w hs
    refine enter (args := [Value.agg (encSn x).toArray, .pointer (some ⟨b3, 0, none⟩)]) Try.func90 rfl Try.ntmps90 rfl hs ?_
    repeat' (first | refine rn ?_ | (apply TL_box; exact rfl; exact rfl; exact rfl; intro _ _) | (apply TL_alloc; exact rfl; intro _ _) | (apply TL_buildSlice; exact rfl; exact rfl; exact rfl; exact rfl; exact rfl; intro _ _))
    rename_i bx _
    refine TL_call rfl rfl rfl (fun _ : Unit => .bool (q j)) (fun _ => Hj (j + 1) ++ [(bx, Blk.cells (encSn x) 39), (b3, Blk.cells [.func (.func kf) #[] cl.toArray] 118)]) (fun _ => True) (fun w hs => hcl [(bx, Blk.cells (encSn x) 39), (b3, Blk.cells [.func (.func kf) #[] cl.toArray] 118)] j x hx w (hs.perm List.perm_append_comm)) (fun _ _ => ?_)
    repeat' (first | refine rn ?_ | (apply TL_box; exact rfl; exact rfl; exact rfl; intro _ _) | (apply TL_alloc; exact rfl; intro _ _) | (apply TL_buildSlice; exact rfl; exact rfl; exact rfl; exact rfl; exact rfl; intro _ _))
    exact TQ_ret1 Try.results90 (RV.tmp rfl) (fun w' hs => ⟨(), trivial, rfl, (hs.perm (List.perm_append_comm (l₁ := [(bx, Blk.cells (encSn x) 39), (b3, Blk.cells [.func (.func kf) #[] cl.toArray] 118)]))).sub (List.sublist_cons_self _ _)⟩)
  rintro j hf
  repeat' (first | refine rn ?_ | (apply TL_box; exact rfl; exact rfl; exact rfl; intro _ _) | (apply TL_alloc; exact rfl; intro _ _) | (apply TL_buildSlice; exact rfl; exact rfl; exact rfl; exact rfl; exact rfl; intro _ _))
  exact TQ_ret1 Try.results70 (RV.tmp rfl) (fun w' hs => ⟨j, hf, rfl, hs.sub (List.sublist_cons_self _ _)⟩)
end Go.Proofs.Ytccgplomnjpniaa
