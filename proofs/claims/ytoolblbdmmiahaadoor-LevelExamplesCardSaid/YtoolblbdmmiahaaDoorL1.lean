/- Walks: whether a survey is valid. -/
import Derived.Test.YtoolblbdmmiahaaDoorL0
import Derived.Test.YtoolblbdmmiahaaDoorFacts
import Derived.Test.YtoolblbdmmiahaaDoorEngT
namespace Go.Proofs.YtoolblbdmmiahaaDoor
open Go Go.Eng Go.RowKit Go.Proofs
set_option maxHeartbeats 4000000
set_option maxRecDepth 10000
attribute [local irreducible] TL TC TQ

/-- The first place, from 0 on, at which p says yes; n if there is none. -/
def First (p : Nat → Bool) (n j : Nat) : Prop := j ≤ n ∧ (∀ i, i < j → p i = false) ∧ (j < n → p j = true)
theorem first_any {α : Type} {q : Nat → Bool} {l : List α} {p : α → Prop} [DecidablePred p] {j : Nat} (h : First q l.length j) (hq : ∀ i x, l[i]? = some x → q i = decide (¬ p x)) : (¬ j < l.length) ↔ ∀ x ∈ l, p x := by
  obtain ⟨h1, h2, h3⟩ := h
  constructor
  · intro hj x hx
    obtain ⟨i, hi, rfl⟩ := List.getElem_of_mem hx
    have := h2 i (by omega)
    rw [hq i l[i] (List.getElem?_eq_getElem hi)] at this
    simpa using this
  · intro ha hj
    have := h3 hj
    rw [hq j l[j] (List.getElem?_eq_getElem hj)] at this
    simp [ha l[j] (List.getElem_mem hj)] at this

theorem vb {p q : Prop} {_ : Decidable p} {_ : Decidable q} (h : p ↔ q) : Ending.returned (Value.bool (decide p)) = Ending.returned (Value.bool (decide q)) := by rw [decide_eq_decide.2 h]
theorem vbf {p : Prop} {_ : Decidable p} (h : ¬ p) : Ending.returned (Value.bool false) = Ending.returned (Value.bool (decide p)) := by rw [decide_eq_false h]
theorem vbt {p : Prop} {_ : Decidable p} (h : p) : Ending.returned (Value.bool true) = Ending.returned (Value.bool (decide p)) := by rw [decide_eq_true h]
theorem c71 {B : Nat} {w0 : World} (G : Hp) (p : Nat → Bool) (kf : FuncId) (cl : List Value) [EntP Tryd.prog kf] (l : List Int) (ao : Option Addr) (c : Nat) (hn : l.length ≤ 4611686018427387904)
    (hsl : ∀ w, SH B w0 w G → Sl w 1 encI ao l)
    (hcl : ∀ (j : Nat) x, l[j]? = some x → ∀ w, SH B w0 w G → Calls Tryd.prog kf (Value.int .i64 x :: cl).toArray w (RetP B w0 (fun _ : Unit => .bool (p j)) (fun _ => G) (fun _ => True)))
    (w : World) (hs : SH B w0 w G) :
    Calls Tryd.prog 36 #[.slice ao l.length c, .func (.func kf) #[] cl.toArray] w
      (RetP B w0 (fun x : Nat × Int => .int .i64 x.2) (fun _ => G) (fun x => First p l.length x.1 ∧ x.2 = if x.1 < l.length then (x.1 : Int) else -1)) := by
  refine enter (args := [.slice ao l.length c, .func (.func kf) #[] cl.toArray]) Tryd.func36 rfl Tryd.ntmps36 rfl hs ?_
  repeat' (first | refine rn ?_ | (apply TL_box; exact rfl; exact rfl; exact rfl; intro _ _) | (apply TL_alloc; exact rfl; intro _ _) | (apply TL_buildSlice; exact rfl; exact rfl; exact rfl; exact rfl; exact rfl; intro _ _))
  refine TC_loop (σ := Nat) (fun k => k ≤ l.length ∧ ∀ i, i < k → p i = false) (fun k => [(0, .slice ao l.length c), (1, .func (.func kf) #[] cl.toArray), (7, .int .i64 l.length), (8, .int .i64 k)]) (fun k => G) (fun k => l.length - k) 0 ⟨Nat.zero_le _, fun i h => by omega⟩ sb (fun w h => h) (fun k hk => ?_)
  repeat' (first | refine rn ?_ | (apply TL_box; exact rfl; exact rfl; exact rfl; intro _ _) | (apply TL_alloc; exact rfl; intro _ _) | (apply TL_buildSlice; exact rfl; exact rfl; exact rfl; exact rfl; exact rfl; intro _ _))
  refine TC_cond_dec rfl (fun h1 => ?_) (fun h1 => ?_)
  · have hlt : k < l.length := by omega
    obtain ⟨x, hx⟩ : ∃ x, l[k]? = some x := ⟨_, List.getElem?_eq_getElem hlt⟩
    repeat' (first | refine rn ?_ | (apply TL_box; exact rfl; exact rfl; exact rfl; intro _ _) | (apply TL_alloc; exact rfl; intro _ _) | (apply TL_buildSlice; exact rfl; exact rfl; exact rfl; exact rfl; exact rfl; intro _ _))
    refine TL_index k rfl rfl rfl hsl rfl hlt (Nat.le_refl _) ?_
    refine TL_load_el1 (u := x) rfl rfl hsl hx rfl ?_
    refine TL_call rfl rfl rfl (fun _ : Unit => .bool (p k)) (fun _ => G) (fun _ => True) (fun w hs => hcl k x hx w hs) (fun _ _ => ?_)
    repeat' (first | refine rn ?_ | (apply TL_box; exact rfl; exact rfl; exact rfl; intro _ _) | (apply TL_alloc; exact rfl; intro _ _) | (apply TL_buildSlice; exact rfl; exact rfl; exact rfl; exact rfl; exact rfl; intro _ _))
    refine TC_cond rfl (fun h2 => ?_) (fun h2 => ?_)
    · repeat' (first | refine rn ?_ | (apply TL_box; exact rfl; exact rfl; exact rfl; intro _ _) | (apply TL_alloc; exact rfl; intro _ _) | (apply TL_buildSlice; exact rfl; exact rfl; exact rfl; exact rfl; exact rfl; intro _ _))
      exact TQ_ret1 Tryd.results36 (RV.tmp rfl) (fun w' hs => ⟨(k, (k : Int)), ⟨⟨by omega, hk.2, fun _ => h2⟩, by simp [hlt]⟩, rfl, hs⟩)
    · repeat' (first | refine rn ?_ | (apply TL_box; exact rfl; exact rfl; exact rfl; intro _ _) | (apply TL_alloc; exact rfl; intro _ _) | (apply TL_buildSlice; exact rfl; exact rfl; exact rfl; exact rfl; exact rfl; intro _ _))
      refine TQ_round (k + 1) ⟨by omega, fun i hi => ?_⟩ (by omega) sb (fun w h => h)
      rcases Nat.lt_or_ge i k with h | h
      · exact hk.2 i h
      · have : i = k := by omega
        subst this; exact h2
  · have hkl : k = l.length := by omega
    subst hkl
    repeat' (first | refine rn ?_ | (apply TL_box; exact rfl; exact rfl; exact rfl; intro _ _) | (apply TL_alloc; exact rfl; intro _ _) | (apply TL_buildSlice; exact rfl; exact rfl; exact rfl; exact rfl; exact rfl; intro _ _))
    exact TQ_ret1 Tryd.results36 (RV.tmp rfl) (fun w' hs => ⟨(l.length, -1), ⟨⟨Nat.le_refl _, hk.2, fun h => by omega⟩, by simp⟩, rfl, hs⟩)
theorem c65 {B : Nat} {w0 : World} (G : Hp) (p : Nat → Bool) (kf : FuncId) (cl : List Value) [EntP Tryd.prog kf] (l : List Int) (ao : Option Addr) (c : Nat) (hn : l.length ≤ 4611686018427387904)
    (hsl : ∀ w, SH B w0 w G → Sl w 1 encI ao l)
    (hcl : ∀ (j : Nat) x, l[j]? = some x → ∀ w, SH B w0 w G → Calls Tryd.prog kf (Value.int .i64 x :: cl).toArray w (RetP B w0 (fun _ : Unit => .bool (p j)) (fun _ => G) (fun _ => True)))
    (w : World) (hs : SH B w0 w G) :
    Calls Tryd.prog 29 #[.slice ao l.length c, .func (.func kf) #[] cl.toArray] w
      (RetP B w0 (fun x : Nat => .bool (decide (x < l.length))) (fun _ => G) (fun x => First p l.length x)) := by
  refine enter (args := [.slice ao l.length c, .func (.func kf) #[] cl.toArray]) Tryd.func29 rfl Tryd.ntmps29 rfl hs ?_
  repeat' (first | refine rn ?_ | (apply TL_box; exact rfl; exact rfl; exact rfl; intro _ _) | (apply TL_alloc; exact rfl; intro _ _) | (apply TL_buildSlice; exact rfl; exact rfl; exact rfl; exact rfl; exact rfl; intro _ _))
  refine TL_call rfl rfl rfl _ _ _ (fun w hs => c71 G p kf cl l ao c hn hsl hcl w hs) ?_
  rintro ⟨j, m⟩ ⟨hf, hm⟩
  dsimp only at hf hm ⊢
  repeat' (first | refine rn ?_ | (apply TL_box; exact rfl; exact rfl; exact rfl; intro _ _) | (apply TL_alloc; exact rfl; intro _ _) | (apply TL_buildSlice; exact rfl; exact rfl; exact rfl; exact rfl; exact rfl; intro _ _))
  refine TQ_ret1 Tryd.results29 (RV.tmp rfl) (fun w' hs => ⟨j, hf, ?_, hs⟩)
  have hj := hf.1
  have : (0 ≤ m) ↔ j < l.length := by
    rw [hm]; split <;> omega
  simp [this]
/-- level.from -/
theorem c48 (lo hi : Int) (l : List Int) (ao : Option Addr) (c : Nat) (hn : l.length ≤ 4611686018427387904) (w : World) (ha : Sl w 1 encI ao l) :
    Calls Tryd.prog 20 #[.int .i64 lo, .int .i64 hi, .slice ao l.length c] w (RetV w (.bool (decide (∀ x ∈ l, In x lo hi)))) := by
  refine enter (args := [.int .i64 lo, .int .i64 hi, .slice ao l.length c]) Tryd.func20 rfl Tryd.ntmps20 rfl (SH.refl _) ?_
  repeat' (first | refine rn ?_ | (apply TL_box; exact rfl; exact rfl; exact rfl; intro _ _) | (apply TL_alloc; exact rfl; intro _ _) | (apply TL_buildSlice; exact rfl; exact rfl; exact rfl; exact rfl; exact rfl; intro _ _))
  rename_i b3 _ b4 _
  refine TL_call rfl rfl rfl _ _ _ (fun w hs => c65 [(b4, .cells [.int .i64 hi] 3), (b3, .cells [.int .i64 lo] 3)] (fun j => decide (¬ In (l.getD j 0) lo hi)) 30 [.pointer (some ⟨b3, 0, none⟩), .pointer (some ⟨b4, 0, none⟩)] l ao c hn (fun w h => h.sl ha) ?_ w hs) ?_
  · intro j x hx w hs
    refine enter (args := [.int .i64 x, .pointer (some ⟨b3, 0, none⟩), .pointer (some ⟨b4, 0, none⟩)]) Tryd.func30 rfl Tryd.ntmps30 rfl hs ?_
    have hj : l.getD j 0 = x := by rw [List.getD_eq_getElem?_getD, hx]; rfl
    rw [hj]
    repeat' (first | refine rn ?_ | (apply TL_box; exact rfl; exact rfl; exact rfl; intro _ _) | (apply TL_alloc; exact rfl; intro _ _) | (apply TL_buildSlice; exact rfl; exact rfl; exact rfl; exact rfl; exact rfl; intro _ _))
    refine TL_gsplit_dec rfl rfl (fun g1 => ?_) (fun g1 => ?_)
    · repeat' (first | refine rn ?_ | (apply TL_box; exact rfl; exact rfl; exact rfl; intro _ _) | (apply TL_alloc; exact rfl; intro _ _) | (apply TL_buildSlice; exact rfl; exact rfl; exact rfl; exact rfl; exact rfl; intro _ _))
      refine TQ_ret1 Tryd.results30 (RV.tmp rfl) (fun w' hs => ⟨(), trivial, ?_, hs⟩)
      exact vbt (fun h => by simp only [In] at h; omega)
    · repeat' (first | refine rn ?_ | (apply TL_box; exact rfl; exact rfl; exact rfl; intro _ _) | (apply TL_alloc; exact rfl; intro _ _) | (apply TL_buildSlice; exact rfl; exact rfl; exact rfl; exact rfl; exact rfl; intro _ _))
      refine TQ_ret1 Tryd.results30 (RV.tmp rfl) (fun w' hs => ⟨(), trivial, ?_, hs⟩)
      refine vb ?_
      simp only [In]; omega
  rintro j hf
  repeat' (first | refine rn ?_ | (apply TL_box; exact rfl; exact rfl; exact rfl; intro _ _) | (apply TL_alloc; exact rfl; intro _ _) | (apply TL_buildSlice; exact rfl; exact rfl; exact rfl; exact rfl; exact rfl; intro _ _))
  refine TQ_ret1 Tryd.results20 (RV.tmp rfl) (fun w' hs => ⟨?_, hs.below⟩)
  have := first_any (p := fun x => In x lo hi) hf (fun i x hx => by rw [List.getD_eq_getElem?_getD, hx]; rfl)
  rw [decide_eq_decide.2 this]
/-- level.proper -/
theorem c52 (s : Sp) (lo hi : Int) (w : World) : Calls Tryd.prog 27 #[.agg (encSp s).toArray, .int .i64 lo, .int .i64 hi] w (RetV w (.bool (decide (Ord s lo hi)))) := by
  refine enter (args := [.agg (encSp s).toArray, .int .i64 lo, .int .i64 hi]) Tryd.func27 rfl Tryd.ntmps27 rfl (SH.refl _) ?_
  repeat' (first | refine rn ?_ | (apply TL_box; exact rfl; exact rfl; exact rfl; intro _ _) | (apply TL_alloc; exact rfl; intro _ _) | (apply TL_buildSlice; exact rfl; exact rfl; exact rfl; exact rfl; exact rfl; intro _ _))
  refine TL_gsplit_dec rfl rfl (fun g1 => ?_) (fun g1 => ?_)
  · repeat' (first | refine rn ?_ | (apply TL_box; exact rfl; exact rfl; exact rfl; intro _ _) | (apply TL_alloc; exact rfl; intro _ _) | (apply TL_buildSlice; exact rfl; exact rfl; exact rfl; exact rfl; exact rfl; intro _ _))
    refine TL_callV rfl rfl rfl (fun w h => c48 lo hi [s.1, s.2] _ 2 (by simp) w (Sl.of_blk h mm (fun y _ => rfl) ⟨[], rfl⟩)) ?_
    repeat' (first | refine rn ?_ | (apply TL_box; exact rfl; exact rfl; exact rfl; intro _ _) | (apply TL_alloc; exact rfl; intro _ _) | (apply TL_buildSlice; exact rfl; exact rfl; exact rfl; exact rfl; exact rfl; intro _ _))
    refine TQ_ret1 Tryd.results27 (RV.tmp rfl) (fun w' hs => ⟨?_, hs.below⟩)
    refine vb ?_
    simp [Ord, In]; omega
  · repeat' (first | refine rn ?_ | (apply TL_box; exact rfl; exact rfl; exact rfl; intro _ _) | (apply TL_alloc; exact rfl; intro _ _) | (apply TL_buildSlice; exact rfl; exact rfl; exact rfl; exact rfl; exact rfl; intro _ _))
    exact TQ_ret1 Tryd.results27 (RV.tmp rfl) (fun w' hs => RetV.no (fun h => g1 h.2.1) hs.below)
/-- The closure apart of Check. -/
theorem c51 {B : Nat} {w0 : World} (S : Sv) (p : Pl) (hp : In S.pts (-1000000) 1000000) (a b : Int) (bs : Nat) (G : Hp) (hm : (bs, .cells (encSv S p) 32) ∈ G) (w : World) (hs : SH B w0 w G) :
    Calls Tryd.prog 26 #[.int .i64 a, .int .i64 b, .pointer (some ⟨bs, 0, none⟩)] w (RetP B w0 (fun _ : Unit => .bool (decide (In a 0 (S.pts - 1) ∧ In b 0 (S.pts - 1) ∧ a ≠ b))) (fun _ => G) (fun _ => True)) := by
  simp only [In] at hp
  refine enter (args := [.int .i64 a, .int .i64 b, .pointer (some ⟨bs, 0, none⟩)]) Tryd.func26 rfl Tryd.ntmps26 rfl hs ?_
  repeat' (first | refine rn ?_ | (apply TL_box; exact rfl; exact rfl; exact rfl; intro _ _) | (apply TL_alloc; exact rfl; intro _ _) | (apply TL_buildSlice; exact rfl; exact rfl; exact rfl; exact rfl; exact rfl; intro _ _))
  refine TL_gsplit_dec rfl rfl (fun g1 => ?_) (fun g1 => ?_)
  · repeat' (first | refine rn ?_ | (apply TL_box; exact rfl; exact rfl; exact rfl; intro _ _) | (apply TL_alloc; exact rfl; intro _ _) | (apply TL_buildSlice; exact rfl; exact rfl; exact rfl; exact rfl; exact rfl; intro _ _))
    refine TL_load1 rfl rfl hm rfl ?_
    repeat' (first | refine rn ?_ | (apply TL_box; exact rfl; exact rfl; exact rfl; intro _ _) | (apply TL_alloc; exact rfl; intro _ _) | (apply TL_buildSlice; exact rfl; exact rfl; exact rfl; exact rfl; exact rfl; intro _ _))
    rename_i b15 _
    refine TL_callV rfl rfl rfl (fun w h => c48 0 (S.pts - 1) [a, b] _ 2 (by simp) w (Sl.of_blk h mm (fun y _ => rfl) ⟨[], rfl⟩)) ?_
    repeat' (first | refine rn ?_ | (apply TL_box; exact rfl; exact rfl; exact rfl; intro _ _) | (apply TL_alloc; exact rfl; intro _ _) | (apply TL_buildSlice; exact rfl; exact rfl; exact rfl; exact rfl; exact rfl; intro _ _))
    refine TQ_ret1 Tryd.results26 (RV.tmp rfl) (fun w' hs => ⟨(), trivial, ?_, hs.sub (List.Sublist.cons _ (List.Sublist.refl _))⟩)
    refine vb ?_
    simp [In, g1]
  · repeat' (first | refine rn ?_ | (apply TL_box; exact rfl; exact rfl; exact rfl; intro _ _) | (apply TL_alloc; exact rfl; intro _ _) | (apply TL_buildSlice; exact rfl; exact rfl; exact rfl; exact rfl; exact rfl; intro _ _))
    refine TQ_ret1 Tryd.results26 (RV.tmp rfl) (fun w' hs => ⟨(), trivial, ?_, hs⟩)
    exact vbf (fun h => g1 h.2.2)
end Go.Proofs.YtoolblbdmmiahaaDoor
