/- Walks: date.in, spans, round. -/
import Derived.Test.YtccgplomnjpniaaD7
namespace Go.Proofs.Ytccgplomnjpniaa
open Go Go.Eng Go.RowKit Go.Proofs
set_option maxHeartbeats 1000000
set_option maxRecDepth 10000
attribute [local irreducible] TL TC TQ

theorem first_all {α : Type} {q : Nat → Bool} {l : List α} {p : α → Prop} [DecidablePred p] {j : Nat} (h : First (fun j => !q j) l.length j) (hq : ∀ i x, l[i]? = some x → q i = decide (p x)) : (¬ j < l.length) ↔ ∀ x ∈ l, p x := by
  obtain ⟨h1, h2, h3⟩ := h
  constructor
  · intro hj x hx
    obtain ⟨i, hi, rfl⟩ := List.getElem_of_mem hx
    have := h2 i (by omega)
    dsimp only at this
    rw [hq i l[i] (List.getElem?_eq_getElem hi)] at this
    simpa using this
  · intro ha hj
    have := h3 hj
    dsimp only at this
    rw [hq j l[j] (List.getElem?_eq_getElem hj)] at this
    simp [ha l[j] (List.getElem_mem hj)] at this

/-- date.in -/
theorem c46 (lo hi : Int) (l : List Int) (ao : Option Addr) (c : Nat) (hn : l.length ≤ 4611686018427387904) (w : World) (ha : Sl w 1 encI ao l) :
    Calls Try.prog 46 #[.int .i64 lo, .int .i64 hi, .slice ao l.length c] w (RetV w (.bool (decide (∀ x ∈ l, In x lo hi)))) := by
  refine enter (args := [.int .i64 lo, .int .i64 hi, .slice ao l.length c]) Try.func46 rfl Try.ntmps46 rfl (SH.refl _) ?_
  repeat' (first | refine rn ?_ | (apply TL_box; exact rfl; exact rfl; exact rfl; intro _ _) | (apply TL_alloc; exact rfl; intro _ _) | (apply TL_buildSlice; exact rfl; exact rfl; exact rfl; exact rfl; exact rfl; intro _ _))
  rename_i b3 _ b4 _
  refine TL_call rfl rfl rfl _ _ _ (fun w hs => c59 (fun _ => [(b4, .cells [.int .i64 hi] 3), (b3, .cells [.int .i64 lo] 3)]) (fun j => decide (In (l.getD j 0) lo hi)) 71 [.pointer (some ⟨b3, 0, none⟩), .pointer (some ⟨b4, 0, none⟩)] l ao c hn (fun _ w h => h.sl ha) ?_ w hs) ?_
  · intro G j x hx w hs
    refine enter (args := [.int .i64 x, .pointer (some ⟨b3, 0, none⟩), .pointer (some ⟨b4, 0, none⟩)]) Try.func71 rfl Try.ntmps71 rfl hs ?_
    have hj : l.getD j 0 = x := by rw [List.getD_eq_getElem?_getD, hx]; rfl
    rw [hj]
    repeat' (first | refine rn ?_ | (apply TL_box; exact rfl; exact rfl; exact rfl; intro _ _) | (apply TL_alloc; exact rfl; intro _ _) | (apply TL_buildSlice; exact rfl; exact rfl; exact rfl; exact rfl; exact rfl; intro _ _))
    refine TL_gsplit_dec rfl rfl (fun g1 => ?_) (fun g1 => ?_)
    · repeat' (first | refine rn ?_ | (apply TL_box; exact rfl; exact rfl; exact rfl; intro _ _) | (apply TL_alloc; exact rfl; intro _ _) | (apply TL_buildSlice; exact rfl; exact rfl; exact rfl; exact rfl; exact rfl; intro _ _))
      refine TQ_ret1 Try.results71 (RV.tmp rfl) (fun w' hs => ⟨(), trivial, ?_, hs⟩)
      simp [In, g1]
    · repeat' (first | refine rn ?_ | (apply TL_box; exact rfl; exact rfl; exact rfl; intro _ _) | (apply TL_alloc; exact rfl; intro _ _) | (apply TL_buildSlice; exact rfl; exact rfl; exact rfl; exact rfl; exact rfl; intro _ _))
      refine TQ_ret1 Try.results71 (RV.tmp rfl) (fun w' hs => ⟨(), trivial, ?_, hs⟩)
      simp [In, g1]
  rintro j hf
  repeat' (first | refine rn ?_ | (apply TL_box; exact rfl; exact rfl; exact rfl; intro _ _) | (apply TL_alloc; exact rfl; intro _ _) | (apply TL_buildSlice; exact rfl; exact rfl; exact rfl; exact rfl; exact rfl; intro _ _))
  refine TQ_ret1 Try.results46 (RV.tmp rfl) (fun w' hs => ⟨?_, hs.below⟩)
  have := first_all (p := fun x => In x lo hi) hf (fun i x hx => by rw [List.getD_eq_getElem?_getD, hx]; rfl)
  rw [decide_eq_decide.2 this]

/-- date.spans -/
theorem c62 (lo hi : Int) (l : List Sp) (ao : Option Addr) (c : Nat) (hn : l.length ≤ 4611686018427387904) (w : World) (ha : Sl w 2 encSp ao l) :
    Calls Try.prog 62 #[.int .i64 lo, .int .i64 hi, .slice ao l.length c] w (RetV w (.bool (decide (∀ s ∈ l, Ord s lo hi)))) := by
  refine enter (args := [.int .i64 lo, .int .i64 hi, .slice ao l.length c]) Try.func62 rfl Try.ntmps62 rfl (SH.refl _) ?_
  repeat' (first | refine rn ?_ | (apply TL_box; exact rfl; exact rfl; exact rfl; intro _ _) | (apply TL_alloc; exact rfl; intro _ _) | (apply TL_buildSlice; exact rfl; exact rfl; exact rfl; exact rfl; exact rfl; intro _ _))
  rename_i b3 _ b4 _
  refine TL_call rfl rfl rfl _ _ _ (fun w hs => c87 (fun _ => [(b4, .cells [.int .i64 hi] 3), (b3, .cells [.int .i64 lo] 3)]) (fun j => decide (Ord (l.getD j (0, 0)) lo hi)) 88 [.pointer (some ⟨b3, 0, none⟩), .pointer (some ⟨b4, 0, none⟩)] l ao c hn (fun _ w h => h.sl ha) ?_ w hs) ?_
  · intro G j x hx w hs
    refine enter (args := [.agg (encSp x).toArray, .pointer (some ⟨b3, 0, none⟩), .pointer (some ⟨b4, 0, none⟩)]) Try.func88 rfl Try.ntmps88 rfl hs ?_
    have hj : l.getD j (0, 0) = x := by rw [List.getD_eq_getElem?_getD, hx]; rfl
    rw [hj]
    repeat' (first | refine rn ?_ | (apply TL_box; exact rfl; exact rfl; exact rfl; intro _ _) | (apply TL_alloc; exact rfl; intro _ _) | (apply TL_buildSlice; exact rfl; exact rfl; exact rfl; exact rfl; exact rfl; intro _ _))
    refine TL_gsplit_dec rfl rfl (fun g1 => ?_) (fun g1 => ?_)
    · repeat' (first | refine rn ?_ | (apply TL_box; exact rfl; exact rfl; exact rfl; intro _ _) | (apply TL_alloc; exact rfl; intro _ _) | (apply TL_buildSlice; exact rfl; exact rfl; exact rfl; exact rfl; exact rfl; intro _ _))
      refine TL_callV rfl rfl rfl (fun w h => c46 lo hi [x.1, x.2] _ 2 (by simp) w (Sl.of_blk h mm (fun y _ => rfl) ⟨[], rfl⟩)) ?_
      repeat' (first | refine rn ?_ | (apply TL_box; exact rfl; exact rfl; exact rfl; intro _ _) | (apply TL_alloc; exact rfl; intro _ _) | (apply TL_buildSlice; exact rfl; exact rfl; exact rfl; exact rfl; exact rfl; intro _ _))
      refine TQ_ret1 Try.results88 (RV.tmp rfl) (fun w' hs => ⟨(), trivial, ?_, hs.sub (by repeat (first | exact List.Sublist.refl _ | apply List.Sublist.cons))⟩)
      have : (∀ y ∈ [x.1, x.2], In y lo hi) ↔ Ord x lo hi := by
        simp [In, Ord]; omega
      rw [decide_eq_decide.2 this]
    · repeat' (first | refine rn ?_ | (apply TL_box; exact rfl; exact rfl; exact rfl; intro _ _) | (apply TL_alloc; exact rfl; intro _ _) | (apply TL_buildSlice; exact rfl; exact rfl; exact rfl; exact rfl; exact rfl; intro _ _))
      refine TQ_ret1 Try.results88 (RV.tmp rfl) (fun w' hs => ⟨(), trivial, ?_, hs.sub (by repeat (first | exact List.Sublist.refl _ | apply List.Sublist.cons))⟩)
      have : ¬ Ord x lo hi := fun h => g1 h.2.1
      rw [decide_eq_false this]
  rintro j hf
  repeat' (first | refine rn ?_ | (apply TL_box; exact rfl; exact rfl; exact rfl; intro _ _) | (apply TL_alloc; exact rfl; intro _ _) | (apply TL_buildSlice; exact rfl; exact rfl; exact rfl; exact rfl; exact rfl; intro _ _))
  refine TQ_ret1 Try.results62 (RV.tmp rfl) (fun w' hs => ⟨?_, hs.below⟩)
  have := first_all (p := fun x => Ord x lo hi) hf (fun i x hx => by rw [List.getD_eq_getElem?_getD, hx]; rfl)
  rw [decide_eq_decide.2 this]

theorem c69 (x : Sn) (w : World) : Calls Try.prog 69 #[.agg (encSn x).toArray] w (RetV w (.bool (decide (Ord x.1 0 1000000 ∧ In x.2 0 1000000)))) := by
  refine enter (args := [.agg (encSn x).toArray]) Try.func69 rfl Try.ntmps69 rfl (SH.refl _) ?_
  repeat' (first | refine rn ?_ | (apply TL_box; exact rfl; exact rfl; exact rfl; intro _ _) | (apply TL_alloc; exact rfl; intro _ _) | (apply TL_buildSlice; exact rfl; exact rfl; exact rfl; exact rfl; exact rfl; intro _ _))
  refine TL_callV rfl rfl rfl (fun w h => c62 0 1000000 [x.1] _ 1 (by simp) w (Sl.of_blk h mm (fun y _ => rfl) ⟨[], rfl⟩)) ?_
  repeat' (first | refine rn ?_ | (apply TL_box; exact rfl; exact rfl; exact rfl; intro _ _) | (apply TL_alloc; exact rfl; intro _ _) | (apply TL_buildSlice; exact rfl; exact rfl; exact rfl; exact rfl; exact rfl; intro _ _))
  refine TL_gsplit_dec rfl rfl (fun g1 => ?_) (fun g1 => ?_)
  · repeat' (first | refine rn ?_ | (apply TL_box; exact rfl; exact rfl; exact rfl; intro _ _) | (apply TL_alloc; exact rfl; intro _ _) | (apply TL_buildSlice; exact rfl; exact rfl; exact rfl; exact rfl; exact rfl; intro _ _))
    refine TL_callV rfl rfl rfl (fun w h => c46 0 1000000 [x.2] _ 1 (by simp) w (Sl.of_blk h mm (fun y _ => rfl) ⟨[], rfl⟩)) ?_
    repeat' (first | refine rn ?_ | (apply TL_box; exact rfl; exact rfl; exact rfl; intro _ _) | (apply TL_alloc; exact rfl; intro _ _) | (apply TL_buildSlice; exact rfl; exact rfl; exact rfl; exact rfl; exact rfl; intro _ _))
    refine TQ_ret1 Try.results69 (RV.tmp rfl) (fun w' hs => ⟨?_, hs.below⟩)
    have : (∀ y ∈ [x.2], In y 0 1000000) ↔ (Ord x.1 0 1000000 ∧ In x.2 0 1000000) := by simp at g1 ⊢; simp [g1]
    rw [decide_eq_decide.2 this]
  · repeat' (first | refine rn ?_ | (apply TL_box; exact rfl; exact rfl; exact rfl; intro _ _) | (apply TL_alloc; exact rfl; intro _ _) | (apply TL_buildSlice; exact rfl; exact rfl; exact rfl; exact rfl; exact rfl; intro _ _))
    refine TQ_ret1 Try.results69 (RV.tmp rfl) (fun w' hs => RetV.no (fun h => g1 ?_) hs.below)
    simp [h.1]

theorem c45 (R : Rd) (ao : Option Addr) (c : Nat) (hl : R.seas.length ≤ 4611686018427387904) (w : World) (ha : Sl w 3 encSn ao R.seas) :
    Calls Try.prog 45 #[.agg (encRd R ao c).toArray] w (RetV w (.bool (decide (OkRd R)))) := by
  refine enter (args := [.agg (encRd R ao c).toArray]) Try.func45 rfl Try.ntmps45 rfl (SH.refl _) ?_
  repeat' (first | refine rn ?_ | (apply TL_box; exact rfl; exact rfl; exact rfl; intro _ _) | (apply TL_alloc; exact rfl; intro _ _) | (apply TL_buildSlice; exact rfl; exact rfl; exact rfl; exact rfl; exact rfl; intro _ _))
  refine TL_callV rfl rfl rfl (fun w h => c62 0 1000000 [R.fod, R.dung] _ 2 (by simp) w (Sl.of_blk h mm (fun y _ => rfl) ⟨[], rfl⟩)) ?_
  repeat' (first | refine rn ?_ | (apply TL_box; exact rfl; exact rfl; exact rfl; intro _ _) | (apply TL_alloc; exact rfl; intro _ _) | (apply TL_buildSlice; exact rfl; exact rfl; exact rfl; exact rfl; exact rfl; intro _ _))
  refine TL_gsplit_dec rfl rfl (fun g1 => ?_) (fun g1 => ?_)
  · repeat' (first | refine rn ?_ | (apply TL_box; exact rfl; exact rfl; exact rfl; intro _ _) | (apply TL_alloc; exact rfl; intro _ _) | (apply TL_buildSlice; exact rfl; exact rfl; exact rfl; exact rfl; exact rfl; intro _ _))
    refine TL_callV rfl rfl rfl (fun w h => c62 0 1000 [R.eats, R.gives] _ 2 (by simp) w (Sl.of_blk h mm (fun y _ => rfl) ⟨[], rfl⟩)) ?_
    repeat' (first | refine rn ?_ | (apply TL_box; exact rfl; exact rfl; exact rfl; intro _ _) | (apply TL_alloc; exact rfl; intro _ _) | (apply TL_buildSlice; exact rfl; exact rfl; exact rfl; exact rfl; exact rfl; intro _ _))
    refine TL_gsplit_dec rfl rfl (fun g2 => ?_) (fun g2 => ?_)
    · repeat' (first | refine rn ?_ | (apply TL_box; exact rfl; exact rfl; exact rfl; intro _ _) | (apply TL_alloc; exact rfl; intro _ _) | (apply TL_buildSlice; exact rfl; exact rfl; exact rfl; exact rfl; exact rfl; intro _ _))
      refine TL_callV rfl rfl rfl (fun w h => c62 0 1000 [R.boost] _ 1 (by simp) w (Sl.of_blk h mm (fun y _ => rfl) ⟨[], rfl⟩)) ?_
      repeat' (first | refine rn ?_ | (apply TL_box; exact rfl; exact rfl; exact rfl; intro _ _) | (apply TL_alloc; exact rfl; intro _ _) | (apply TL_buildSlice; exact rfl; exact rfl; exact rfl; exact rfl; exact rfl; intro _ _))
      refine TL_gsplit_dec rfl rfl (fun g3 => ?_) (fun g3 => ?_)
      · repeat' (first | refine rn ?_ | (apply TL_box; exact rfl; exact rfl; exact rfl; intro _ _) | (apply TL_alloc; exact rfl; intro _ _) | (apply TL_buildSlice; exact rfl; exact rfl; exact rfl; exact rfl; exact rfl; intro _ _))
        refine TL_gsplit_dec rfl rfl (fun g4 => ?_) (fun g4 => ?_)
        · repeat' (first | refine rn ?_ | (apply TL_box; exact rfl; exact rfl; exact rfl; intro _ _) | (apply TL_alloc; exact rfl; intro _ _) | (apply TL_buildSlice; exact rfl; exact rfl; exact rfl; exact rfl; exact rfl; intro _ _))
          refine TL_call rfl rfl rfl _ _ _ (fun w hs => c70 (fun _ => []) (fun j => decide (Ord (R.seas.getD j ((0, 0), 0)).1 0 1000000 ∧ In (R.seas.getD j ((0, 0), 0)).2 0 1000000)) 69 [] R.seas ao c hl (fun _ w h => h.sl ha) ?_ w (hs.sub (List.nil_sublist _))) ?_
          · intro G j x hx w hs
            have hj : R.seas.getD j ((0, 0), 0) = x := by rw [List.getD_eq_getElem?_getD, hx]; rfl
            rw [hj]
            exact (c69 x w).mono fun _ _ ⟨he, hb⟩ => ⟨(), trivial, he, hs.ext hb⟩
          rintro j hf
          repeat' (first | refine rn ?_ | (apply TL_box; exact rfl; exact rfl; exact rfl; intro _ _) | (apply TL_alloc; exact rfl; intro _ _) | (apply TL_buildSlice; exact rfl; exact rfl; exact rfl; exact rfl; exact rfl; intro _ _))
          refine TQ_ret1 Try.results45 (RV.tmp rfl) (fun w' hs => ⟨?_, hs.below⟩)
          have := first_all (p := fun x : Sn => Ord x.1 0 1000000 ∧ In x.2 0 1000000) hf (fun i x hx => by rw [List.getD_eq_getElem?_getD, hx]; rfl)
          have h2 : (¬ j < R.seas.length) ↔ OkRd R := by
            rw [this]
            simp at g1 g2 g3
            exact ⟨fun h => ⟨g1.1, g1.2, g2.1, g2.2, g3, by omega, h⟩, fun h => h.2.2.2.2.2.2⟩
          rw [decide_eq_decide.2 h2]
        · repeat' (first | refine rn ?_ | (apply TL_box; exact rfl; exact rfl; exact rfl; intro _ _) | (apply TL_alloc; exact rfl; intro _ _) | (apply TL_buildSlice; exact rfl; exact rfl; exact rfl; exact rfl; exact rfl; intro _ _))
          refine TQ_ret1 Try.results45 (RV.tmp rfl) (fun w' hs => RetV.no (fun h => g4 ?_) hs.below)
          have := h.2.2.2.2.2.1; omega
      · repeat' (first | refine rn ?_ | (apply TL_box; exact rfl; exact rfl; exact rfl; intro _ _) | (apply TL_alloc; exact rfl; intro _ _) | (apply TL_buildSlice; exact rfl; exact rfl; exact rfl; exact rfl; exact rfl; intro _ _))
        refine TQ_ret1 Try.results45 (RV.tmp rfl) (fun w' hs => RetV.no (fun h => g3 ?_) hs.below)
        simp [h.2.2.2.2.1]
    · repeat' (first | refine rn ?_ | (apply TL_box; exact rfl; exact rfl; exact rfl; intro _ _) | (apply TL_alloc; exact rfl; intro _ _) | (apply TL_buildSlice; exact rfl; exact rfl; exact rfl; exact rfl; exact rfl; intro _ _))
      refine TQ_ret1 Try.results45 (RV.tmp rfl) (fun w' hs => RetV.no (fun h => g2 ?_) hs.below)
      simp [h.2.2.1, h.2.2.2.1]
  · repeat' (first | refine rn ?_ | (apply TL_box; exact rfl; exact rfl; exact rfl; intro _ _) | (apply TL_alloc; exact rfl; intro _ _) | (apply TL_buildSlice; exact rfl; exact rfl; exact rfl; exact rfl; exact rfl; intro _ _))
    refine TQ_ret1 Try.results45 (RV.tmp rfl) (fun w' hs => RetV.no (fun h => g1 ?_) hs.below)
    simp [h.1, h.2.1]
end Go.Proofs.Ytccgplomnjpniaa
