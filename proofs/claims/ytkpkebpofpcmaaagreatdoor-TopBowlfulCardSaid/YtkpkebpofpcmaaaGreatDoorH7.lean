/- Walks of the package hour: the moments of changes, one after the other. -/
import Derived.Test.YtkpkebpofpcmaaaGreatDoorH6
import Derived.Test.YtkpkebpofpcmaaaGreatDoorEngP
namespace Go.Proofs.YtkpkebpofpcmaaaGreatDoor
open Go Go.Eng Go.RowKit Go.Proofs
set_option maxHeartbeats 4000000
set_option maxRecDepth 10000
instance : EqG Tryz.prog 106 := ⟨by kernel_rfl⟩
attribute [local irreducible] TL TC TQ

def cg0 : Cg := ⟨[], none, 0, 0, false⟩
def nxW (k : Ck) (c : Cg) (t now : Sp) : Sp := comW t [(wr (now.1 + (stepW k c).1), wr (now.2 + (stepW k c).2))]
def momW (k : Ck) (l : List Cg) (T : List Sp) : Nat → Sp
  | 0 => T.getD 0 (0, 0)
  | i + 1 => nxW k (l.getD (i + 1) cg0) (T.getD (i + 1) (0, 0)) (momW k l T i)
theorem first_never (f : Nat → Sp) (n : Nat) : (∀ i, i < n → f i ≠ (1, 0)) ∨ ∃ s, s < n ∧ f s = (1, 0) ∧ ∀ i, i < s → f i ≠ (1, 0) := by
  induction n with
  | zero => exact .inl (fun i h => by omega)
  | succ n ih =>
    rcases ih with h | ⟨s, h1, h2, h3⟩
    · by_cases hn : f n = (1, 0)
      · exact .inr ⟨n, by omega, hn, h⟩
      · refine .inl (fun i hi => ?_)
        rcases Nat.lt_or_ge i n with h' | h'
        · exact h i h'
        · have : i = n := by omega
          subst this; exact hn
    · exact .inr ⟨s, by omega, h2, h3⟩
theorem c36 (k : Kp) (l : List Cg) (ao : Option Addr) (cc : Nat) (T : List Sp) (to_ : Option Addr) (tc : Nat) (w : World) : Calls Tryz.prog 36 #[.agg (encKp k).toArray, .slice ao l.length cc, .slice to_ T.length tc] w
    (RetP w.heap.size w (fun q : Nat × Nat × Nat => .func (.func 82) #[] #[.pointer (some ⟨q.2.1, 0, none⟩), .pointer (some ⟨q.2.2, 0, none⟩), .pointer (some ⟨q.1, 0, none⟩)]) (fun q => [(q.2.2, .cells [.slice to_ T.length tc] 99), (q.2.1, .cells [.slice ao l.length cc] 28), (q.1, .cells (encKp k) 96)]) (fun _ => True)) := by
  refine enter (args := [.agg (encKp k).toArray, .slice ao l.length cc, .slice to_ T.length tc]) Tryz.func36 rfl Tryz.ntmps36 rfl (SH.refl _) ?_
  repeat' (first | refine rn ?_ | (apply TL_box; exact rfl; exact rfl; exact rfl; intro _ _) | (apply TL_alloc; exact rfl; intro _ _) | (apply TL_buildSlice; exact rfl; exact rfl; exact rfl; exact rfl; exact rfl; intro _ _))
  rename_i b3 _ b4 _ b5 _
  exact TQ_ret1 Tryz.results36 (RV.tmp rfl) (fun w' hs => ⟨(b3, b4, b5), trivial, rfl, hs⟩)

theorem c82 {σ : Type} (k : Kp) (l : List Cg) (ao : Option Addr) (cc : Nat) (T : List Sp) (to_ : Option Addr) (tc : Nat) (b3 b4 b5 : Nat) (lp : Nat) (n : Nat) (st : Bool) (p : Nat → σ → Prop) (Y : Nat → σ → Hp) (G : Nat → Hp) (Z : σ → Hp) (w0 : World) (x0 : σ) (hp0 : p 0 x0)
    (hn : l.length ≤ 1000000) (hT : T.length = l.length) (hnl : n ≤ l.length) (hst : st = true → 0 < n ∧ momW k.1 l T (n - 1) = (1, 0)) (hsf : st = false → n = l.length) (hnv : ∀ i, i < n → (st = true → i + 1 < n) → momW k.1 l T i ≠ (1, 0))
    (hl : CgAt w0 ao l) (hv : Nv w0) (hY : ∀ j x, Y j x = G j ++ Z x) (hTs : ∀ (w : World) (A : Hp) (y : σ), (∀ q ∈ Z y, q ∈ A) → SH w0.heap.size w0 w A → Sl w 2 encSp to_ T)
    (h3 : ∀ y, (b3, Blk.cells (encKp k) 96) ∈ Z y) (h4 : ∀ y, (b4, Blk.cells [.slice ao l.length cc] 28) ∈ Z y) (h5 : ∀ y, (b5, Blk.cells [.slice to_ T.length tc] 99) ∈ Z y)
    (hy : YldX Tryz.prog w0.heap.size w0 lp n (fun j => [.int .i64 j, .agg (encSp (momW k.1 l T j)).toArray]) p Y (fun j => !(st && Nat.beq (j + 1) n))) (w : World) (hs : SH w0.heap.size w0 w (Y 0 x0)) :
    Calls Tryz.prog 82 #[.func (.yield lp) #[] #[], .pointer (some ⟨b4, 0, none⟩), .pointer (some ⟨b5, 0, none⟩), .pointer (some ⟨b3, 0, none⟩)] w (RetP w0.heap.size w0 (fun _ : σ => .tuple #[]) (Y n) (p n)) := by
  have m3 : ∀ (j : Nat) (y : σ), (b3, Blk.cells (encKp k) 96) ∈ Y j y := fun j y => by rw [hY]; exact List.mem_append_right _ (h3 y)
  have m4 : ∀ (j : Nat) (y : σ), (b4, Blk.cells [.slice ao l.length cc] 28) ∈ Y j y := fun j y => by rw [hY]; exact List.mem_append_right _ (h4 y)
  have m5 : ∀ (j : Nat) (y : σ), (b5, Blk.cells [.slice to_ T.length tc] 99) ∈ Y j y := fun j y => by rw [hY]; exact List.mem_append_right _ (h5 y)
  have mT : ∀ (j : Nat) (y : σ) w (A : Hp), (∀ q ∈ Y j y, q ∈ A) → SH w0.heap.size w0 w A → Sl w 2 encSp to_ T := fun j y w A hA h => hTs w _ y (fun q hq => hA q (by rw [hY]; exact List.mem_append_right _ hq)) h
  refine enter (args := [.func (.yield lp) #[] #[], .pointer (some ⟨b4, 0, none⟩), .pointer (some ⟨b5, 0, none⟩), .pointer (some ⟨b3, 0, none⟩)]) Tryz.func82 rfl Tryz.ntmps82 rfl hs ?_
  repeat' (first | refine rn ?_ | (apply TL_box; exact rfl; exact rfl; exact rfl; intro _ _) | (apply TL_alloc; exact rfl; intro _ _) | (apply TL_buildSlice; exact rfl; exact rfl; exact rfl; exact rfl; exact rfl; intro _ _))
  rename_i bn _
  refine TL_load1 rfl rfl (T := 28) (cs := [.slice ao l.length cc]) (by repeat (first | exact m4 _ _ | apply List.mem_cons_of_mem)) rfl ?_
  repeat' (first | refine rn ?_ | (apply TL_box; exact rfl; exact rfl; exact rfl; intro _ _) | (apply TL_alloc; exact rfl; intro _ _) | (apply TL_buildSlice; exact rfl; exact rfl; exact rfl; exact rfl; exact rfl; intro _ _))
  refine TC_loop (σ := Nat × σ) (fun q => q.1 ≤ n ∧ p q.1 q.2 ∧ (st = true → q.1 < n)) (fun q => [(0, .func (.yield lp) #[] #[]), (1, .pointer (some ⟨b4, 0, none⟩)), (2, .pointer (some ⟨b5, 0, none⟩)), (3, .pointer (some ⟨b3, 0, none⟩)), (5, .pointer (some ⟨bn, 0, none⟩)), (10, .slice ao l.length cc), (11, .int .i64 l.length), (12, .int .i64 q.1)]) (fun q => (bn, .cells (encSp (match q.1 with | 0 => (0, 0) | i + 1 => momW k.1 l T i)) 106) :: Y q.1 q.2) (fun q => l.length - q.1) (0, x0) ⟨Nat.zero_le _, hp0, fun h => (hst h).1⟩ sb (fun w h => h) (fun q hq => ?_)
  obtain ⟨i, y⟩ := q
  obtain ⟨hi, hpy, hlt0⟩ := hq
  dsimp only at hi hpy hlt0 ⊢
  repeat' (first | refine rn ?_ | (apply TL_box; exact rfl; exact rfl; exact rfl; intro _ _) | (apply TL_alloc; exact rfl; intro _ _) | (apply TL_buildSlice; exact rfl; exact rfl; exact rfl; exact rfl; exact rfl; intro _ _))
  refine TC_cond_dec rfl (fun h1 => ?_) (fun h1 => ?_)
  · have hlt : i < l.length := by omega
    have hin : i < n := by
      cases st with
      | true => exact hlt0 rfl
      | false => have := hsf rfl; omega
    obtain ⟨x, hx⟩ : ∃ x, l[i]? = some x := ⟨_, List.getElem?_eq_getElem hlt⟩
    obtain ⟨t, ht⟩ : ∃ t, T[i]? = some t := ⟨_, List.getElem?_eq_getElem (by omega)⟩
    repeat' (first | refine rn ?_ | (apply TL_box; exact rfl; exact rfl; exact rfl; intro _ _) | (apply TL_alloc; exact rfl; intro _ _) | (apply TL_buildSlice; exact rfl; exact rfl; exact rfl; exact rfl; exact rfl; intro _ _))
    refine TL_index i rfl rfl rfl (fun w h => h.sl hl.s) rfl hlt (Nat.le_refl _) ?_
    refine TL_load_eln (u := x) rfl rfl (fun w h => h.sl hl.s) hx rfl ?_
    repeat' (first | refine rn ?_ | (apply TL_box; exact rfl; exact rfl; exact rfl; intro _ _) | (apply TL_alloc; exact rfl; intro _ _) | (apply TL_buildSlice; exact rfl; exact rfl; exact rfl; exact rfl; exact rfl; intro _ _))
    rename_i b7 _
    refine TL_load1 rfl rfl (T := 99) (cs := [.slice to_ T.length tc]) (by repeat (first | exact m5 _ _ | apply List.mem_cons_of_mem)) rfl ?_
    repeat' (first | refine rn ?_ | (apply TL_box; exact rfl; exact rfl; exact rfl; intro _ _) | (apply TL_alloc; exact rfl; intro _ _) | (apply TL_buildSlice; exact rfl; exact rfl; exact rfl; exact rfl; exact rfl; intro _ _))
    refine TL_index i rfl rfl rfl (fun w h => mT i y w _ (fun q hq => by repeat (first | exact hq | apply List.mem_cons_of_mem)) h) rfl (by omega) (Nat.le_refl _) ?_
    refine TL_load_eln (u := t) rfl rfl (fun w h => mT i y w _ (fun q hq => by repeat (first | exact hq | apply List.mem_cons_of_mem)) h) ht rfl ?_
    have hcase : i = 0 ∨ ∃ m, i = m + 1 := by cases i with | zero => exact .inl rfl | succ m => exact .inr ⟨m, rfl⟩
    have hlx : l.getD i cg0 = x := by rw [List.getD_eq_getElem?_getD, hx]; rfl
    have htx : T.getD i (0, 0) = t := by rw [List.getD_eq_getElem?_getD, ht]; rfl
    repeat' (first | refine rn ?_ | (apply TL_box; exact rfl; exact rfl; exact rfl; intro _ _) | (apply TL_alloc; exact rfl; intro _ _) | (apply TL_buildSlice; exact rfl; exact rfl; exact rfl; exact rfl; exact rfl; intro _ _))
    rename_i b8 _
    refine TC_join (σ := Unit) (fun _ => True) (fun _ => [(0, .func (.yield lp) #[] #[]), (1, .pointer (some ⟨b4, 0, none⟩)), (2, .pointer (some ⟨b5, 0, none⟩)), (3, .pointer (some ⟨b3, 0, none⟩)), (5, .pointer (some ⟨bn, 0, none⟩)), (6, .int .i64 i), (8, .pointer (some ⟨b8, 0, none⟩)), (10, .slice ao l.length cc), (11, .int .i64 l.length), (12, .int .i64 i)])
      (fun _ => (b8, .cells (encSp (momW k.1 l T i)) 106) :: (bn, .cells (encSp (match i with | 0 => (0, 0) | i + 1 => momW k.1 l T i)) 106) :: Y i y) ?_ (fun _ _ => ?_)
    · refine TC_cond_dec rfl (fun g => ?_) (fun g => ?_)
      · obtain ⟨m, rfl⟩ : ∃ m, i = m + 1 := ⟨i - 1, by omega⟩
        repeat' (first | refine rn ?_ | (apply TL_box; exact rfl; exact rfl; exact rfl; intro _ _) | (apply TL_alloc; exact rfl; intro _ _) | (apply TL_buildSlice; exact rfl; exact rfl; exact rfl; exact rfl; exact rfl; intro _ _))
        refine TL_loadn rfl rfl (T := 96) (cs := encKp k) (by repeat (first | exact m3 _ _ | apply List.mem_cons_of_mem)) rfl ?_
        repeat' (first | refine rn ?_ | (apply TL_box; exact rfl; exact rfl; exact rfl; intro _ _) | (apply TL_alloc; exact rfl; intro _ _) | (apply TL_buildSlice; exact rfl; exact rfl; exact rfl; exact rfl; exact rfl; intro _ _))
        refine TL_callV rfl rfl rfl (fun w h => c37 k x w) ?_
        repeat' (first | refine rn ?_ | (apply TL_box; exact rfl; exact rfl; exact rfl; intro _ _) | (apply TL_alloc; exact rfl; intro _ _) | (apply TL_buildSlice; exact rfl; exact rfl; exact rfl; exact rfl; exact rfl; intro _ _) | (refine ra ?_) | (refine wo ?_))
        refine TL_callV rfl rfl rfl (fun w h => c38 t [(wr ((momW k.1 l T m).1 + (stepW k.1 x).1), wr ((momW k.1 l T m).2 + (stepW k.1 x).2))] _ 1 (by simp [Small]) w (Sl.of_blk h mm (fun _ _ => rfl) ⟨[], rfl⟩) (hv.mono h.below)) ?_
        repeat' (first | refine rn ?_ | (apply TL_box; exact rfl; exact rfl; exact rfl; intro _ _) | (apply TL_alloc; exact rfl; intro _ _) | (apply TL_buildSlice; exact rfl; exact rfl; exact rfl; exact rfl; exact rfl; intro _ _))
        have e : momW k.1 l T (m + 1) = comW t [(wr ((momW k.1 l T m).1 + (stepW k.1 x).1), wr ((momW k.1 l T m).2 + (stepW k.1 x).2))] := by
          show nxW k.1 (l.getD (m + 1) cg0) (T.getD (m + 1) (0, 0)) (momW k.1 l T m) = _
          rw [hlx, htx]; rfl
        rw [e]
        exact TQ_mid () trivial sb (fun w h => h.sub su)
      · have : i = 0 := by omega
        subst this
        have e : momW k.1 l T 0 = t := by rw [← htx]; rfl
        rw [e]
        repeat' (first | refine rn ?_ | (apply TL_box; exact rfl; exact rfl; exact rfl; intro _ _) | (apply TL_alloc; exact rfl; intro _ _) | (apply TL_buildSlice; exact rfl; exact rfl; exact rfl; exact rfl; exact rfl; intro _ _))
        exact TQ_mid () trivial sb (fun w h => h.sub su)
    repeat' (first | refine rn ?_ | (apply TL_box; exact rfl; exact rfl; exact rfl; intro _ _) | (apply TL_alloc; exact rfl; intro _ _) | (apply TL_buildSlice; exact rfl; exact rfl; exact rfl; exact rfl; exact rfl; intro _ _))
    refine TL_yieldX (G := [_, _]) rfl rfl rfl hy i y hin hpy rfl List.perm_append_comm (fun y' hpy' => ?_)
    cases hb : (st && Nat.beq (i + 1) n) with
    | true =>
      rw [Bool.and_eq_true] at hb
      have hin1 : i + 1 = n := Nat.eq_of_beq_eq_true hb.2
      subst hin1
      repeat' (first | refine rn ?_ | (apply TL_box; exact rfl; exact rfl; exact rfl; intro _ _) | (apply TL_alloc; exact rfl; intro _ _) | (apply TL_buildSlice; exact rfl; exact rfl; exact rfl; exact rfl; exact rfl; intro _ _))
      exact TQ_ret0 Tryz.results82 (fun w' hs => ⟨y', hpy', rfl, hs.sub (List.sublist_append_left _ _)⟩)
    | false =>
      have hne := hnv i hin (fun h => by
        rw [h, Bool.true_and] at hb
        have : ¬ i + 1 = n := fun h' => by rw [h'] at hb; simp at hb
        omega)
      repeat' (first | refine rn ?_ | (apply TL_box; exact rfl; exact rfl; exact rfl; intro _ _) | (apply TL_alloc; exact rfl; intro _ _) | (apply TL_buildSlice; exact rfl; exact rfl; exact rfl; exact rfl; exact rfl; intro _ _))
      refine TL_load_eln (i := 0) (o := 0) rfl rfl (fun w h => h.sl hv) rfl rfl ?_
      repeat' (first | refine rn ?_ | (apply TL_box; exact rfl; exact rfl; exact rfl; intro _ _) | (apply TL_alloc; exact rfl; intro _ _) | (apply TL_buildSlice; exact rfl; exact rfl; exact rfl; exact rfl; exact rfl; intro _ _))
      refine TC_cond_dec rfl (fun g => ?_) (fun g => ?_)
      · exfalso
        apply hne
        have : [(momW k.1 l T i).1, (momW k.1 l T i).2] = [1, 0] := g
        simp only [List.cons.injEq, and_true] at this
        exact Prod.ext this.1 this.2
      · repeat' (first | refine rn ?_ | (apply TL_box; exact rfl; exact rfl; exact rfl; intro _ _) | (apply TL_alloc; exact rfl; intro _ _) | (apply TL_buildSlice; exact rfl; exact rfl; exact rfl; exact rfl; exact rfl; intro _ _))
        refine TQ_round (i + 1, y') ⟨hin, hpy', fun h => ?_⟩ (by dsimp only; omega) sb (fun w h => ?_)
        · rw [h, Bool.true_and] at hb
          have : ¬ i + 1 = n := fun h' => by rw [h'] at hb; simp at hb
          omega
        · exact (h.perm List.perm_append_comm).sub su
  · have hin : i = l.length := by omega
    cases st with
    | true => have := hlt0 rfl; omega
    | false =>
      have := hsf rfl
      have hin' : i = n := by omega
      subst hin'
      repeat' (first | refine rn ?_ | (apply TL_box; exact rfl; exact rfl; exact rfl; intro _ _) | (apply TL_alloc; exact rfl; intro _ _) | (apply TL_buildSlice; exact rfl; exact rfl; exact rfl; exact rfl; exact rfl; intro _ _))
      exact TQ_end0 Tryz.results82 (fun w' hs => ⟨y, hpy, rfl, hs.sub su⟩)
end Go.Proofs.YtkpkebpofpcmaaaGreatDoor
