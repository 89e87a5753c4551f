/- Walks: date.season. -/
import Derived.Test.YtccgplomnjpniaaD9
import Derived.Test.YtccgplomnjpniaaEngC
import Derived.Test.YtccgplomnjpniaaD5
import Derived.Test.YtccgplomnjpniaaD8
namespace Go.Proofs.Ytccgplomnjpniaa
open Go Go.Eng Go.RowKit Go.Proofs
set_option maxHeartbeats 1000000
set_option maxRecDepth 10000
attribute [local irreducible] TL TC TQ

/-- A season: what comes of it. -/
def seasonO (R : Rd) (g : Int) (s : St) (x : Sn) (i : Nat) : Except Value Value := match stepR R g s x with
  | .inl e => .error (stopV i e)
  | .inr s' => .ok (.agg (encSt s').toArray)

theorem c73 (R : Rd) (g : Int) (s : St) (i : Nat) (x : Sn) (ao : Option Addr) (c : Nat) (hi : R.seas[i]? = some x) (hi' : i ≤ 20) (hp : Prods R g x) (hbd : Bd i s) (w : World) (ha : Sl w 3 encSn ao R.seas) :
    Calls Try.prog 73 #[.agg (encRd R ao c).toArray, .int .i64 i, .int .i64 g, .agg (encSt s).toArray] w (EndV w (seasonO R g s x i)) := by
  have hlt : i < R.seas.length := (List.getElem?_eq_some_iff.1 hi).1
  obtain ⟨pb1, pb2, pe1, pe2, pg1, pg2, pr1, pr2, psp⟩ := hp
  obtain ⟨q1, q2, q3, q4⟩ := hbd
  have e1 : x.2 * R.boost.1 = R.boost.1 * x.2 := Int.mul_comm _ _
  have e2 : x.2 * R.boost.2 = R.boost.2 * x.2 := Int.mul_comm _ _
  refine enter (args := [.agg (encRd R ao c).toArray, .int .i64 i, .int .i64 g, .agg (encSt s).toArray]) Try.func73 rfl Try.ntmps73 rfl (SH.refl _) ?_
  repeat' (first | refine rn ?_ | (apply TL_box; exact rfl; exact rfl; exact rfl; intro _ _) | (apply TL_alloc; exact rfl; intro _ _) | (apply TL_buildSlice; exact rfl; exact rfl; exact rfl; exact rfl; exact rfl; intro _ _))
  refine TL_index i rfl rfl rfl (fun w h => h.sl ha) rfl hlt (Nat.le_refl _) ?_
  refine TL_load_eln rfl rfl (fun w h => h.sl ha) hi rfl ?_
  repeat' (first | refine rn ?_ | (apply TL_box; exact rfl; exact rfl; exact rfl; intro _ _) | (apply TL_alloc; exact rfl; intro _ _) | (apply TL_buildSlice; exact rfl; exact rfl; exact rfl; exact rfl; exact rfl; intro _ _))
  refine TL_callE rfl rfl rfl (fun w _ => c91 _ _ _ w) (fun v hv => ?_) (fun v hv => ?_)
  rotate_left
  · have h1 : s.2.1 < x.2 := by
      by_cases h : x.2 ≤ s.2.1
      · simp [h] at hv
      · omega
    have ev : v = stopV i 85 := by
      have : ¬ x.2 ≤ s.2.1 := by omega
      simp [this] at hv; exact hv.symm
    have eo : seasonO R g s x i = .error (stopV i 85) := by simp [seasonO, stepR, h1]
    rw [eo]; subst ev
    refine TQ_then_panic ?_
    exact TQ_panic (fun w' hs => ⟨rfl, hs.below⟩)
  have h1 : ¬ s.2.1 < x.2 := by
    intro h
    have : ¬ x.2 ≤ s.2.1 := by omega
    simp [this] at hv
  clear hv
  repeat' (first | refine rn ?_ | (apply TL_box; exact rfl; exact rfl; exact rfl; intro _ _) | (apply TL_alloc; exact rfl; intro _ _) | (apply TL_buildSlice; exact rfl; exact rfl; exact rfl; exact rfl; exact rfl; intro _ _))
  refine TL_callV rfl rfl rfl (fun w _ => c92 R.boost x.2 w (by simp only [Small]; omega) (by simp only [Small]; omega)) ?_
  repeat' (first | refine rn ?_ | (apply TL_box; exact rfl; exact rfl; exact rfl; intro _ _) | (apply TL_alloc; exact rfl; intro _ _) | (apply TL_buildSlice; exact rfl; exact rfl; exact rfl; exact rfl; exact rfl; intro _ _))
  have e9 : x.2 * R.boost.2 + 1000 - 1 = x.2 * R.boost.2 + 999 := by omega
  rw [e9]
  apply TC_draw 13; kernel_rfl; exact Try.mixed
  · iterate 4 (refine' pv ?_; rotate_left)
    (refine' pv ?_; rotate_left)
    (refine' PG.rel ((fun v h => ∃ b, v = .slice (some ⟨b, 0, none⟩) 3 3 ∧ h = [(b, .cells [.int .i64 s.1.1, .int .i64 s.1.2, .int .i64 x.1.1, .int .i64 x.1.2, .int .i64 (x.2 * R.boost.1 / 1000), .int .i64 ((x.2 * R.boost.2 + 999) / 1000)] 23)])) rfl rfl (by intro _X; apply TL_buildSlice; exact rfl; exact rfl; exact rfl; exact rfl; exact rfl; intro b _; apply TL_nil; exact TQ_QR (h := [(b, _)]) rfl ⟨b, rfl, rfl⟩ (fun _ h => h)) ?_; rotate_left)
    (refine' PG.val rfl rfl (by rintro _ _ ⟨b, rfl, rfl⟩ _X; refine TL_callV rfl rfl rfl (fun w h => c82_3 s.1 x.1 (x.2 * R.boost.1 / 1000, (x.2 * R.boost.2 + 999) / 1000) _ 3 w (Sl.of_blk h mm (fun y _ => rfl) ⟨[], rfl⟩) ⟨by simp only [Small]; omega, by simp only [Small]; omega⟩ ⟨by simp only [Small]; omega, by simp only [Small]; omega⟩ ⟨by simp only [Small]; omega, by simp only [Small]; omega⟩) ?_; exact qe) ?_; rotate_left)
    iterate 3 (refine' pv ?_; rotate_left)
    (refine' PG.val rfl rfl (by intro _X; refine TL_callV rfl rfl rfl (fun w _ => c92 R.eats g w (by simp only [Small]; omega) (by simp only [Small]; omega)) ?_; exact qe) ?_; rotate_left)
    (refine' PG.rel ((fun v h => ∃ b, v = .pointer (some ⟨b, 0, none⟩) ∧ h = [(b, .cells [.int .i64 0, .int .i64 0] 23)])) rfl rfl (by intro _X; apply TL_alloc; exact rfl; intro b _; apply TL_nil; exact TQ_QR (h := [(b, _)]) rfl ⟨b, rfl, rfl⟩ (fun _ h => h)) ?_; rotate_left)
    (refine' PG.rel ((fun v h => ∃ b, v = .pointer (some ⟨b, 0, none⟩) ∧ h = [(b, .cells [.int .i64 0, .int .i64 0] 23)])) rfl rfl (by intro _X; apply TL_alloc; exact rfl; intro b _; apply TL_nil; exact TQ_QR (h := [(b, _)]) rfl ⟨b, rfl, rfl⟩ (fun _ h => h)) ?_; rotate_left)
    exact PG.nil
  rintro _ _ ⟨b13, rfl, rfl⟩ _ _ ⟨b12, rfl, rfl⟩ _ _ ⟨b47, rfl, rfl⟩
  change TL _ _ _ _ _ _ _ _ _ _ _
  repeat' (first | refine rn ?_ | (apply TL_box; exact rfl; exact rfl; exact rfl; intro _ _) | (apply TL_alloc; exact rfl; intro _ _) | (apply TL_buildSlice; exact rfl; exact rfl; exact rfl; exact rfl; exact rfl; intro _ _))
  refine TL_callE rfl rfl rfl (fun w _ => c91 _ _ _ w) (fun v hv => ?_) (fun v hv => ?_)
  rotate_left
  · have h2 : s.1.1 + x.1.1 + x.2 * R.boost.1 / 1000 < g * R.eats.2 := by
      by_cases h : g * R.eats.2 ≤ s.1.1 + x.1.1 + x.2 * R.boost.1 / 1000
      · simp [h] at hv
      · omega
    have ev : v = stopV i 84 := by
      have : ¬ g * R.eats.2 ≤ s.1.1 + x.1.1 + x.2 * R.boost.1 / 1000 := by omega
      simp [this] at hv; exact hv.symm
    have eo : seasonO R g s x i = .error (stopV i 84) := by unfold seasonO stepR; rw [if_neg h1, if_pos h2]
    rw [eo]; subst ev
    refine TQ_then_panic ?_
    exact TQ_panic (fun w' hs => ⟨rfl, hs.below⟩)
  have h2 : ¬ s.1.1 + x.1.1 + x.2 * R.boost.1 / 1000 < g * R.eats.2 := by
    intro h
    have : ¬ g * R.eats.2 ≤ s.1.1 + x.1.1 + x.2 * R.boost.1 / 1000 := by omega
    simp [this] at hv
  clear hv
  have eo : seasonO R g s x i = .ok (.agg (encSt (nextR R g s x)).toArray) := by unfold seasonO stepR; rw [if_neg h1, if_neg h2]
  rw [eo]
  repeat' (first | refine rn ?_ | (apply TL_box; exact rfl; exact rfl; exact rfl; intro _ _) | (apply TL_alloc; exact rfl; intro _ _) | (apply TL_buildSlice; exact rfl; exact rfl; exact rfl; exact rfl; exact rfl; intro _ _))
  apply TC_draw 14; kernel_rfl; exact Try.mixed
  · iterate 2 (refine' pv ?_; rotate_left)
    (refine' PG.val rfl rfl (by intro _X; refine TL_callV rfl rfl rfl (fun w _ => c93 (s.1.1 + x.1.1 + x.2 * R.boost.1 / 1000, s.1.2 + x.1.2 + (x.2 * R.boost.2 + 999) / 1000) (g * R.eats.1, g * R.eats.2) w (by simp only [Small]; omega) (by simp only [Small]; omega) (by simp only [Small]; omega) (by simp only [Small]; omega)) ?_; exact qe) ?_; rotate_left)
    iterate 3 (refine' pv ?_; rotate_left)
    (refine' PG.val rfl rfl (by intro _X; refine TL_callV rfl rfl rfl (fun w _ => c93 s.2 (x.2, x.2) w (by simp only [Small]; omega) (by simp only [Small]; omega) (by simp only [Small]; omega) (by simp only [Small]; omega)) ?_; exact qe) ?_; rotate_left)
    iterate 3 (refine' pv ?_; rotate_left)
    (refine' PG.val rfl rfl (by intro _X; refine TL_callV rfl rfl rfl (fun w _ => c92 R.gives g w (by simp only [Small]; omega) (by simp only [Small]; omega)) ?_; exact qe) ?_; rotate_left)
    (refine' PG.rel ((fun v h => ∃ b, v = .slice (some ⟨b, 0, none⟩) 2 2 ∧ h = [(b, .cells [.int .i64 (s.2.1 - x.2), .int .i64 (s.2.2 - x.2), .int .i64 (g * R.gives.1), .int .i64 (g * R.gives.2)] 23)])) rfl rfl (by intro _X; apply TL_buildSlice; exact rfl; exact rfl; exact rfl; exact rfl; exact rfl; intro b _; apply TL_nil; exact TQ_QR (h := [(b, _)]) rfl ⟨b, rfl, rfl⟩ (fun _ h => h)) ?_; rotate_left)
    (refine' PG.val rfl rfl (by rintro _ _ ⟨b, rfl, rfl⟩ _X; refine TL_callV rfl rfl rfl (fun w h => c82_2 (s.2.1 - x.2, s.2.2 - x.2) (g * R.gives.1, g * R.gives.2) _ 2 w (Sl.of_blk h mm (fun y _ => rfl) ⟨[], rfl⟩) ⟨by simp only [Small]; omega, by simp only [Small]; omega⟩ ⟨by simp only [Small]; omega, by simp only [Small]; omega⟩) ?_; exact qe) ?_; rotate_left)
    (refine' pv ?_; rotate_left)
    exact PG.nil
  rintro _ _ ⟨b47, rfl, rfl⟩
  change TL _ _ _ _ _ _ _ _ _ _ _
  repeat' (first | refine rn ?_ | (apply TL_box; exact rfl; exact rfl; exact rfl; intro _ _) | (apply TL_alloc; exact rfl; intro _ _) | (apply TL_buildSlice; exact rfl; exact rfl; exact rfl; exact rfl; exact rfl; intro _ _))
  exact TQ_ret1 Try.results73 (RV.celln rfl mm (by rfl)) (fun w' hs => ⟨rfl, hs.below⟩)
end Go.Proofs.Ytccgplomnjpniaa
/- Walks: date.run's deferred function. -/
namespace Go.Proofs.Ytccgplomnjpniaa
open Go Go.Eng Go.RowKit Go.Proofs
set_option maxHeartbeats 1000000
set_option maxRecDepth 10000
attribute [local irreducible] TL TC TQ TA

/-- date.run's deferred function, after a run that ended well: it leaves all as it is. -/
theorem c72_ret {B : Nat} {w0 : World} {H : Hp} (p4 p5 p6 : Value) (w : World) (hs : SH B w0 w H) :
    CallsDIn (FW none) 0 Try.prog 72 #[p4, p5, p6] .returning w (fun e u' w' => (∃ v, e = .returned v) ∧ settle u' = .returning ∧ SH B w0 w' H) := by
  refine enterRec (args := [p4, p5, p6]) (v := .nilIface) (u' := .returning) Try.func72 rfl Try.ntmps72 rfl rfl rfl (.inl ⟨rfl, rfl, rfl⟩) hs ?_
  repeat' (first | refine rn ?_ | (apply TL_box; exact rfl; exact rfl; exact rfl; intro _ _) | (apply TL_alloc; exact rfl; intro _ _) | (apply TL_buildSlice; exact rfl; exact rfl; exact rfl; exact rfl; exact rfl; intro _ _))
  refine TL_neq_nilnil rfl Try.underlying20 rfl ?_
  repeat' (first | refine rn ?_ | (apply TL_box; exact rfl; exact rfl; exact rfl; intro _ _) | (apply TL_alloc; exact rfl; intro _ _) | (apply TL_buildSlice; exact rfl; exact rfl; exact rfl; exact rfl; exact rfl; intro _ _))
  exact TQ_end0 Try.results72 (fun w' hs => ⟨⟨_, rfl⟩, rfl, hs⟩)
/-- .. after a stop. -/
theorem c72_stop {B : Nat} {w0 : World} {G : Hp} (b4 b5 b6 : Nat) (i e : Int) (x4 : Value) (w : World) (hs : SH B w0 w ((b4, .cells [x4] 27) :: (b5, .cells [.int .i64 0] 3) :: (b6, .cells [.int .i64 0] 28) :: G)) :
    CallsDIn (FW none) 0 Try.prog 72 #[.pointer (some ⟨b4, 0, none⟩), .pointer (some ⟨b5, 0, none⟩), .pointer (some ⟨b6, 0, none⟩)] (.panicking [{ v := stopV i e, recovered := false }]) w
      (fun e' u' w' => (∃ v, e' = .returned v) ∧ settle u' = .returning ∧ SH B w0 w' ((b4, .cells [.slice none 0 0] 27) :: (b5, .cells [.int .i64 i] 3) :: (b6, .cells [.int .i64 e] 28) :: G)) := by
  refine enterRec (args := [.pointer (some ⟨b4, 0, none⟩), .pointer (some ⟨b5, 0, none⟩), .pointer (some ⟨b6, 0, none⟩)]) (v := stopV i e) (u' := .panicking [{ v := stopV i e, recovered := true }]) Try.func72 rfl Try.ntmps72 rfl rfl rfl (.inr ⟨rfl, rfl⟩) hs ?_
  repeat' (first | refine rn ?_ | (apply TL_box; exact rfl; exact rfl; exact rfl; intro _ _) | (apply TL_alloc; exact rfl; intro _ _) | (apply TL_buildSlice; exact rfl; exact rfl; exact rfl; exact rfl; exact rfl; intro _ _))
  refine TL_neq_held rfl Try.underlying20 rfl ?_
  repeat' (first | refine rn ?_ | (apply TL_box; exact rfl; exact rfl; exact rfl; intro _ _) | (apply TL_alloc; exact rfl; intro _ _) | (apply TL_buildSlice; exact rfl; exact rfl; exact rfl; exact rfl; exact rfl; intro _ _))
  refine TL_typeAssert_ok rfl Try.underlying121 rfl ?_
  repeat' (first | refine rn ?_ | (apply TL_box; exact rfl; exact rfl; exact rfl; intro _ _) | (apply TL_alloc; exact rfl; intro _ _) | (apply TL_buildSlice; exact rfl; exact rfl; exact rfl; exact rfl; exact rfl; intro _ _))
  rename_i b _
  refine TC_any Try.mixed ?_
  refine TA_stepL [0, 2, 4] (by kernel_rfl) rfl ⟨?_, ?_, ?_, trivial⟩
  · change TL _ _ _ _ _ _ _ _ _ _ _
    refine TL_fieldAddr rfl rfl ?_; apply TL_nil; apply TQ_any
    refine TA_stepL [1, 2, 4] (by kernel_rfl) rfl ⟨?_, ?_, ?_, trivial⟩
    · change TL _ _ _ _ _ _ _ _ _ _ _
      refine TL_load1 rfl rfl mm rfl ?_; apply TL_nil; apply TQ_any
      refine TA_stepL [2, 4] (by kernel_rfl) rfl ⟨?_, ?_, trivial⟩
      · change TL _ _ _ _ _ _ _ _ _ _ _
        refine TL_fieldAddr rfl rfl ?_; apply TL_nil; apply TQ_any
        refine TA_stepL [3, 4] (by kernel_rfl) rfl ⟨?_, ?_, trivial⟩
        · change TL _ _ _ _ _ _ _ _ _ _ _
          refine TL_load1 rfl rfl mm rfl ?_; apply TL_nil; apply TQ_any
          refine TA_stepL [4] (by kernel_rfl) rfl ⟨?_, trivial⟩
          change TL _ _ _ _ _ _ _ _ _ _ _
          refine TL_store rfl rfl rfl rfl rfl up rfl ?_; apply TL_nil; apply TQ_any
          refine TA_stepL [5] (by kernel_rfl) rfl ⟨?_, trivial⟩
          change TL _ _ _ _ _ _ _ _ _ _ _
          refine TL_store rfl rfl rfl rfl rfl up rfl ?_; apply TL_nil; apply TQ_any
          refine TA_stepL [6] (by kernel_rfl) rfl ⟨?_, trivial⟩
          change TL _ _ _ _ _ _ _ _ _ _ _
          refine TL_store rfl rfl rfl rfl rfl up rfl ?_; apply TL_nil; apply TQ_any
          refine TA_done (by kernel_rfl) ?_
          exact TQ_end0 Try.results72 (fun w' hs => ⟨⟨_, rfl⟩, rfl, hs.sub (List.sublist_cons_self _ _)⟩)
        · change TL _ _ _ _ _ _ _ _ _ _ _
          refine TL_store rfl rfl rfl rfl rfl up rfl ?_; apply TL_nil; apply TQ_any
          refine TA_stepL [3, 5] (by kernel_rfl) rfl ⟨?_, ?_, trivial⟩
          · change TL _ _ _ _ _ _ _ _ _ _ _
            refine TL_load1 rfl rfl mm rfl ?_; apply TL_nil; apply TQ_any
            refine TA_stepL [5] (by kernel_rfl) rfl ⟨?_, trivial⟩
            change TL _ _ _ _ _ _ _ _ _ _ _
            refine TL_store rfl rfl rfl rfl rfl up rfl ?_; apply TL_nil; apply TQ_any
            refine TA_stepL [6] (by kernel_rfl) rfl ⟨?_, trivial⟩
            change TL _ _ _ _ _ _ _ _ _ _ _
            refine TL_store rfl rfl rfl rfl rfl up rfl ?_; apply TL_nil; apply TQ_any
            refine TA_done (by kernel_rfl) ?_
            exact TQ_end0 Try.results72 (fun w' hs => ⟨⟨_, rfl⟩, rfl, hs.sub (List.sublist_cons_self _ _)⟩)
          · change TL _ _ _ _ _ _ _ _ _ _ _
            refine TL_store rfl rfl rfl rfl rfl up rfl ?_; apply TL_nil; apply TQ_any
            refine TA_stepL [3] (by kernel_rfl) rfl ⟨?_, trivial⟩
            change TL _ _ _ _ _ _ _ _ _ _ _
            refine TL_load1 rfl rfl mm rfl ?_; apply TL_nil; apply TQ_any
            refine TA_stepL [6] (by kernel_rfl) rfl ⟨?_, trivial⟩
            change TL _ _ _ _ _ _ _ _ _ _ _
            refine TL_store rfl rfl rfl rfl rfl up rfl ?_; apply TL_nil; apply TQ_any
            refine TA_done (by kernel_rfl) ?_
            exact TQ_end0 Try.results72 (fun w' hs => ⟨⟨_, rfl⟩, rfl, hs.sub (List.sublist_cons_self _ _)⟩)
      · change TL _ _ _ _ _ _ _ _ _ _ _
        refine TL_store rfl rfl rfl rfl rfl up rfl ?_; apply TL_nil; apply TQ_any
        refine TA_stepL [2, 5] (by kernel_rfl) rfl ⟨?_, ?_, trivial⟩
        · change TL _ _ _ _ _ _ _ _ _ _ _
          refine TL_fieldAddr rfl rfl ?_; apply TL_nil; apply TQ_any
          refine TA_stepL [3, 5] (by kernel_rfl) rfl ⟨?_, ?_, trivial⟩
          · change TL _ _ _ _ _ _ _ _ _ _ _
            refine TL_load1 rfl rfl mm rfl ?_; apply TL_nil; apply TQ_any
            refine TA_stepL [5] (by kernel_rfl) rfl ⟨?_, trivial⟩
            change TL _ _ _ _ _ _ _ _ _ _ _
            refine TL_store rfl rfl rfl rfl rfl up rfl ?_; apply TL_nil; apply TQ_any
            refine TA_stepL [6] (by kernel_rfl) rfl ⟨?_, trivial⟩
            change TL _ _ _ _ _ _ _ _ _ _ _
            refine TL_store rfl rfl rfl rfl rfl up rfl ?_; apply TL_nil; apply TQ_any
            refine TA_done (by kernel_rfl) ?_
            exact TQ_end0 Try.results72 (fun w' hs => ⟨⟨_, rfl⟩, rfl, hs.sub (List.sublist_cons_self _ _)⟩)
          · change TL _ _ _ _ _ _ _ _ _ _ _
            refine TL_store rfl rfl rfl rfl rfl up rfl ?_; apply TL_nil; apply TQ_any
            refine TA_stepL [3] (by kernel_rfl) rfl ⟨?_, trivial⟩
            change TL _ _ _ _ _ _ _ _ _ _ _
            refine TL_load1 rfl rfl mm rfl ?_; apply TL_nil; apply TQ_any
            refine TA_stepL [6] (by kernel_rfl) rfl ⟨?_, trivial⟩
            change TL _ _ _ _ _ _ _ _ _ _ _
            refine TL_store rfl rfl rfl rfl rfl up rfl ?_; apply TL_nil; apply TQ_any
            refine TA_done (by kernel_rfl) ?_
            exact TQ_end0 Try.results72 (fun w' hs => ⟨⟨_, rfl⟩, rfl, hs.sub (List.sublist_cons_self _ _)⟩)
        · change TL _ _ _ _ _ _ _ _ _ _ _
          refine TL_store rfl rfl rfl rfl rfl up rfl ?_; apply TL_nil; apply TQ_any
          refine TA_stepL [2] (by kernel_rfl) rfl ⟨?_, trivial⟩
          change TL _ _ _ _ _ _ _ _ _ _ _
          refine TL_fieldAddr rfl rfl ?_; apply TL_nil; apply TQ_any
          refine TA_stepL [3] (by kernel_rfl) rfl ⟨?_, trivial⟩
          change TL _ _ _ _ _ _ _ _ _ _ _
          refine TL_load1 rfl rfl mm rfl ?_; apply TL_nil; apply TQ_any
          refine TA_stepL [6] (by kernel_rfl) rfl ⟨?_, trivial⟩
          change TL _ _ _ _ _ _ _ _ _ _ _
          refine TL_store rfl rfl rfl rfl rfl up rfl ?_; apply TL_nil; apply TQ_any
          refine TA_done (by kernel_rfl) ?_
          exact TQ_end0 Try.results72 (fun w' hs => ⟨⟨_, rfl⟩, rfl, hs.sub (List.sublist_cons_self _ _)⟩)
    · change TL _ _ _ _ _ _ _ _ _ _ _
      refine TL_fieldAddr rfl rfl ?_; apply TL_nil; apply TQ_any
      refine TA_stepL [1, 3, 4] (by kernel_rfl) rfl ⟨?_, ?_, ?_, trivial⟩
      · change TL _ _ _ _ _ _ _ _ _ _ _
        refine TL_load1 rfl rfl mm rfl ?_; apply TL_nil; apply TQ_any
        refine TA_stepL [3, 4] (by kernel_rfl) rfl ⟨?_, ?_, trivial⟩
        · change TL _ _ _ _ _ _ _ _ _ _ _
          refine TL_load1 rfl rfl mm rfl ?_; apply TL_nil; apply TQ_any
          refine TA_stepL [4] (by kernel_rfl) rfl ⟨?_, trivial⟩
          change TL _ _ _ _ _ _ _ _ _ _ _
          refine TL_store rfl rfl rfl rfl rfl up rfl ?_; apply TL_nil; apply TQ_any
          refine TA_stepL [5] (by kernel_rfl) rfl ⟨?_, trivial⟩
          change TL _ _ _ _ _ _ _ _ _ _ _
          refine TL_store rfl rfl rfl rfl rfl up rfl ?_; apply TL_nil; apply TQ_any
          refine TA_stepL [6] (by kernel_rfl) rfl ⟨?_, trivial⟩
          change TL _ _ _ _ _ _ _ _ _ _ _
          refine TL_store rfl rfl rfl rfl rfl up rfl ?_; apply TL_nil; apply TQ_any
          refine TA_done (by kernel_rfl) ?_
          exact TQ_end0 Try.results72 (fun w' hs => ⟨⟨_, rfl⟩, rfl, hs.sub (List.sublist_cons_self _ _)⟩)
        · change TL _ _ _ _ _ _ _ _ _ _ _
          refine TL_store rfl rfl rfl rfl rfl up rfl ?_; apply TL_nil; apply TQ_any
          refine TA_stepL [3, 5] (by kernel_rfl) rfl ⟨?_, ?_, trivial⟩
          · change TL _ _ _ _ _ _ _ _ _ _ _
            refine TL_load1 rfl rfl mm rfl ?_; apply TL_nil; apply TQ_any
            refine TA_stepL [5] (by kernel_rfl) rfl ⟨?_, trivial⟩
            change TL _ _ _ _ _ _ _ _ _ _ _
            refine TL_store rfl rfl rfl rfl rfl up rfl ?_; apply TL_nil; apply TQ_any
            refine TA_stepL [6] (by kernel_rfl) rfl ⟨?_, trivial⟩
            change TL _ _ _ _ _ _ _ _ _ _ _
            refine TL_store rfl rfl rfl rfl rfl up rfl ?_; apply TL_nil; apply TQ_any
            refine TA_done (by kernel_rfl) ?_
            exact TQ_end0 Try.results72 (fun w' hs => ⟨⟨_, rfl⟩, rfl, hs.sub (List.sublist_cons_self _ _)⟩)
          · change TL _ _ _ _ _ _ _ _ _ _ _
            refine TL_store rfl rfl rfl rfl rfl up rfl ?_; apply TL_nil; apply TQ_any
            refine TA_stepL [3] (by kernel_rfl) rfl ⟨?_, trivial⟩
            change TL _ _ _ _ _ _ _ _ _ _ _
            refine TL_load1 rfl rfl mm rfl ?_; apply TL_nil; apply TQ_any
            refine TA_stepL [6] (by kernel_rfl) rfl ⟨?_, trivial⟩
            change TL _ _ _ _ _ _ _ _ _ _ _
            refine TL_store rfl rfl rfl rfl rfl up rfl ?_; apply TL_nil; apply TQ_any
            refine TA_done (by kernel_rfl) ?_
            exact TQ_end0 Try.results72 (fun w' hs => ⟨⟨_, rfl⟩, rfl, hs.sub (List.sublist_cons_self _ _)⟩)
      · change TL _ _ _ _ _ _ _ _ _ _ _
        refine TL_load1 rfl rfl mm rfl ?_; apply TL_nil; apply TQ_any
        refine TA_stepL [1, 4] (by kernel_rfl) rfl ⟨?_, ?_, trivial⟩
        · change TL _ _ _ _ _ _ _ _ _ _ _
          refine TL_load1 rfl rfl mm rfl ?_; apply TL_nil; apply TQ_any
          refine TA_stepL [4] (by kernel_rfl) rfl ⟨?_, trivial⟩
          change TL _ _ _ _ _ _ _ _ _ _ _
          refine TL_store rfl rfl rfl rfl rfl up rfl ?_; apply TL_nil; apply TQ_any
          refine TA_stepL [5] (by kernel_rfl) rfl ⟨?_, trivial⟩
          change TL _ _ _ _ _ _ _ _ _ _ _
          refine TL_store rfl rfl rfl rfl rfl up rfl ?_; apply TL_nil; apply TQ_any
          refine TA_stepL [6] (by kernel_rfl) rfl ⟨?_, trivial⟩
          change TL _ _ _ _ _ _ _ _ _ _ _
          refine TL_store rfl rfl rfl rfl rfl up rfl ?_; apply TL_nil; apply TQ_any
          refine TA_done (by kernel_rfl) ?_
          exact TQ_end0 Try.results72 (fun w' hs => ⟨⟨_, rfl⟩, rfl, hs.sub (List.sublist_cons_self _ _)⟩)
        · change TL _ _ _ _ _ _ _ _ _ _ _
          refine TL_store rfl rfl rfl rfl rfl up rfl ?_; apply TL_nil; apply TQ_any
          refine TA_stepL [1] (by kernel_rfl) rfl ⟨?_, trivial⟩
          change TL _ _ _ _ _ _ _ _ _ _ _
          refine TL_load1 rfl rfl mm rfl ?_; apply TL_nil; apply TQ_any
          refine TA_stepL [5] (by kernel_rfl) rfl ⟨?_, trivial⟩
          change TL _ _ _ _ _ _ _ _ _ _ _
          refine TL_store rfl rfl rfl rfl rfl up rfl ?_; apply TL_nil; apply TQ_any
          refine TA_stepL [6] (by kernel_rfl) rfl ⟨?_, trivial⟩
          change TL _ _ _ _ _ _ _ _ _ _ _
          refine TL_store rfl rfl rfl rfl rfl up rfl ?_; apply TL_nil; apply TQ_any
          refine TA_done (by kernel_rfl) ?_
          exact TQ_end0 Try.results72 (fun w' hs => ⟨⟨_, rfl⟩, rfl, hs.sub (List.sublist_cons_self _ _)⟩)
      · change TL _ _ _ _ _ _ _ _ _ _ _
        refine TL_store rfl rfl rfl rfl rfl up rfl ?_; apply TL_nil; apply TQ_any
        refine TA_stepL [1, 3] (by kernel_rfl) rfl ⟨?_, ?_, trivial⟩
        · change TL _ _ _ _ _ _ _ _ _ _ _
          refine TL_load1 rfl rfl mm rfl ?_; apply TL_nil; apply TQ_any
          refine TA_stepL [3, 5] (by kernel_rfl) rfl ⟨?_, ?_, trivial⟩
          · change TL _ _ _ _ _ _ _ _ _ _ _
            refine TL_load1 rfl rfl mm rfl ?_; apply TL_nil; apply TQ_any
            refine TA_stepL [5] (by kernel_rfl) rfl ⟨?_, trivial⟩
            change TL _ _ _ _ _ _ _ _ _ _ _
            refine TL_store rfl rfl rfl rfl rfl up rfl ?_; apply TL_nil; apply TQ_any
            refine TA_stepL [6] (by kernel_rfl) rfl ⟨?_, trivial⟩
            change TL _ _ _ _ _ _ _ _ _ _ _
            refine TL_store rfl rfl rfl rfl rfl up rfl ?_; apply TL_nil; apply TQ_any
            refine TA_done (by kernel_rfl) ?_
            exact TQ_end0 Try.results72 (fun w' hs => ⟨⟨_, rfl⟩, rfl, hs.sub (List.sublist_cons_self _ _)⟩)
          · change TL _ _ _ _ _ _ _ _ _ _ _
            refine TL_store rfl rfl rfl rfl rfl up rfl ?_; apply TL_nil; apply TQ_any
            refine TA_stepL [3] (by kernel_rfl) rfl ⟨?_, trivial⟩
            change TL _ _ _ _ _ _ _ _ _ _ _
            refine TL_load1 rfl rfl mm rfl ?_; apply TL_nil; apply TQ_any
            refine TA_stepL [6] (by kernel_rfl) rfl ⟨?_, trivial⟩
            change TL _ _ _ _ _ _ _ _ _ _ _
            refine TL_store rfl rfl rfl rfl rfl up rfl ?_; apply TL_nil; apply TQ_any
            refine TA_done (by kernel_rfl) ?_
            exact TQ_end0 Try.results72 (fun w' hs => ⟨⟨_, rfl⟩, rfl, hs.sub (List.sublist_cons_self _ _)⟩)
        · change TL _ _ _ _ _ _ _ _ _ _ _
          refine TL_load1 rfl rfl mm rfl ?_; apply TL_nil; apply TQ_any
          refine TA_stepL [1] (by kernel_rfl) rfl ⟨?_, trivial⟩
          change TL _ _ _ _ _ _ _ _ _ _ _
          refine TL_load1 rfl rfl mm rfl ?_; apply TL_nil; apply TQ_any
          refine TA_stepL [5] (by kernel_rfl) rfl ⟨?_, trivial⟩
          change TL _ _ _ _ _ _ _ _ _ _ _
          refine TL_store rfl rfl rfl rfl rfl up rfl ?_; apply TL_nil; apply TQ_any
          refine TA_stepL [6] (by kernel_rfl) rfl ⟨?_, trivial⟩
          change TL _ _ _ _ _ _ _ _ _ _ _
          refine TL_store rfl rfl rfl rfl rfl up rfl ?_; apply TL_nil; apply TQ_any
          refine TA_done (by kernel_rfl) ?_
          exact TQ_end0 Try.results72 (fun w' hs => ⟨⟨_, rfl⟩, rfl, hs.sub (List.sublist_cons_self _ _)⟩)
    · change TL _ _ _ _ _ _ _ _ _ _ _
      refine TL_store rfl rfl rfl rfl rfl up rfl ?_; apply TL_nil; apply TQ_any
      refine TA_stepL [1, 2] (by kernel_rfl) rfl ⟨?_, ?_, trivial⟩
      · change TL _ _ _ _ _ _ _ _ _ _ _
        refine TL_load1 rfl rfl mm rfl ?_; apply TL_nil; apply TQ_any
        refine TA_stepL [2, 5] (by kernel_rfl) rfl ⟨?_, ?_, trivial⟩
        · change TL _ _ _ _ _ _ _ _ _ _ _
          refine TL_fieldAddr rfl rfl ?_; apply TL_nil; apply TQ_any
          refine TA_stepL [3, 5] (by kernel_rfl) rfl ⟨?_, ?_, trivial⟩
          · change TL _ _ _ _ _ _ _ _ _ _ _
            refine TL_load1 rfl rfl mm rfl ?_; apply TL_nil; apply TQ_any
            refine TA_stepL [5] (by kernel_rfl) rfl ⟨?_, trivial⟩
            change TL _ _ _ _ _ _ _ _ _ _ _
            refine TL_store rfl rfl rfl rfl rfl up rfl ?_; apply TL_nil; apply TQ_any
            refine TA_stepL [6] (by kernel_rfl) rfl ⟨?_, trivial⟩
            change TL _ _ _ _ _ _ _ _ _ _ _
            refine TL_store rfl rfl rfl rfl rfl up rfl ?_; apply TL_nil; apply TQ_any
            refine TA_done (by kernel_rfl) ?_
            exact TQ_end0 Try.results72 (fun w' hs => ⟨⟨_, rfl⟩, rfl, hs.sub (List.sublist_cons_self _ _)⟩)
          · change TL _ _ _ _ _ _ _ _ _ _ _
            refine TL_store rfl rfl rfl rfl rfl up rfl ?_; apply TL_nil; apply TQ_any
            refine TA_stepL [3] (by kernel_rfl) rfl ⟨?_, trivial⟩
            change TL _ _ _ _ _ _ _ _ _ _ _
            refine TL_load1 rfl rfl mm rfl ?_; apply TL_nil; apply TQ_any
            refine TA_stepL [6] (by kernel_rfl) rfl ⟨?_, trivial⟩
            change TL _ _ _ _ _ _ _ _ _ _ _
            refine TL_store rfl rfl rfl rfl rfl up rfl ?_; apply TL_nil; apply TQ_any
            refine TA_done (by kernel_rfl) ?_
            exact TQ_end0 Try.results72 (fun w' hs => ⟨⟨_, rfl⟩, rfl, hs.sub (List.sublist_cons_self _ _)⟩)
        · change TL _ _ _ _ _ _ _ _ _ _ _
          refine TL_store rfl rfl rfl rfl rfl up rfl ?_; apply TL_nil; apply TQ_any
          refine TA_stepL [2] (by kernel_rfl) rfl ⟨?_, trivial⟩
          change TL _ _ _ _ _ _ _ _ _ _ _
          refine TL_fieldAddr rfl rfl ?_; apply TL_nil; apply TQ_any
          refine TA_stepL [3] (by kernel_rfl) rfl ⟨?_, trivial⟩
          change TL _ _ _ _ _ _ _ _ _ _ _
          refine TL_load1 rfl rfl mm rfl ?_; apply TL_nil; apply TQ_any
          refine TA_stepL [6] (by kernel_rfl) rfl ⟨?_, trivial⟩
          change TL _ _ _ _ _ _ _ _ _ _ _
          refine TL_store rfl rfl rfl rfl rfl up rfl ?_; apply TL_nil; apply TQ_any
          refine TA_done (by kernel_rfl) ?_
          exact TQ_end0 Try.results72 (fun w' hs => ⟨⟨_, rfl⟩, rfl, hs.sub (List.sublist_cons_self _ _)⟩)
      · change TL _ _ _ _ _ _ _ _ _ _ _
        refine TL_fieldAddr rfl rfl ?_; apply TL_nil; apply TQ_any
        refine TA_stepL [1, 3] (by kernel_rfl) rfl ⟨?_, ?_, trivial⟩
        · change TL _ _ _ _ _ _ _ _ _ _ _
          refine TL_load1 rfl rfl mm rfl ?_; apply TL_nil; apply TQ_any
          refine TA_stepL [3, 5] (by kernel_rfl) rfl ⟨?_, ?_, trivial⟩
          · change TL _ _ _ _ _ _ _ _ _ _ _
            refine TL_load1 rfl rfl mm rfl ?_; apply TL_nil; apply TQ_any
            refine TA_stepL [5] (by kernel_rfl) rfl ⟨?_, trivial⟩
            change TL _ _ _ _ _ _ _ _ _ _ _
            refine TL_store rfl rfl rfl rfl rfl up rfl ?_; apply TL_nil; apply TQ_any
            refine TA_stepL [6] (by kernel_rfl) rfl ⟨?_, trivial⟩
            change TL _ _ _ _ _ _ _ _ _ _ _
            refine TL_store rfl rfl rfl rfl rfl up rfl ?_; apply TL_nil; apply TQ_any
            refine TA_done (by kernel_rfl) ?_
            exact TQ_end0 Try.results72 (fun w' hs => ⟨⟨_, rfl⟩, rfl, hs.sub (List.sublist_cons_self _ _)⟩)
          · change TL _ _ _ _ _ _ _ _ _ _ _
            refine TL_store rfl rfl rfl rfl rfl up rfl ?_; apply TL_nil; apply TQ_any
            refine TA_stepL [3] (by kernel_rfl) rfl ⟨?_, trivial⟩
            change TL _ _ _ _ _ _ _ _ _ _ _
            refine TL_load1 rfl rfl mm rfl ?_; apply TL_nil; apply TQ_any
            refine TA_stepL [6] (by kernel_rfl) rfl ⟨?_, trivial⟩
            change TL _ _ _ _ _ _ _ _ _ _ _
            refine TL_store rfl rfl rfl rfl rfl up rfl ?_; apply TL_nil; apply TQ_any
            refine TA_done (by kernel_rfl) ?_
            exact TQ_end0 Try.results72 (fun w' hs => ⟨⟨_, rfl⟩, rfl, hs.sub (List.sublist_cons_self _ _)⟩)
        · change TL _ _ _ _ _ _ _ _ _ _ _
          refine TL_load1 rfl rfl mm rfl ?_; apply TL_nil; apply TQ_any
          refine TA_stepL [1] (by kernel_rfl) rfl ⟨?_, trivial⟩
          change TL _ _ _ _ _ _ _ _ _ _ _
          refine TL_load1 rfl rfl mm rfl ?_; apply TL_nil; apply TQ_any
          refine TA_stepL [5] (by kernel_rfl) rfl ⟨?_, trivial⟩
          change TL _ _ _ _ _ _ _ _ _ _ _
          refine TL_store rfl rfl rfl rfl rfl up rfl ?_; apply TL_nil; apply TQ_any
          refine TA_stepL [6] (by kernel_rfl) rfl ⟨?_, trivial⟩
          change TL _ _ _ _ _ _ _ _ _ _ _
          refine TL_store rfl rfl rfl rfl rfl up rfl ?_; apply TL_nil; apply TQ_any
          refine TA_done (by kernel_rfl) ?_
          exact TQ_end0 Try.results72 (fun w' hs => ⟨⟨_, rfl⟩, rfl, hs.sub (List.sublist_cons_self _ _)⟩)
  · change TL _ _ _ _ _ _ _ _ _ _ _
    refine TL_fieldAddr rfl rfl ?_; apply TL_nil; apply TQ_any
    refine TA_stepL [0, 3, 4] (by kernel_rfl) rfl ⟨?_, ?_, ?_, trivial⟩
    · change TL _ _ _ _ _ _ _ _ _ _ _
      refine TL_fieldAddr rfl rfl ?_; apply TL_nil; apply TQ_any
      refine TA_stepL [1, 3, 4] (by kernel_rfl) rfl ⟨?_, ?_, ?_, trivial⟩
      · change TL _ _ _ _ _ _ _ _ _ _ _
        refine TL_load1 rfl rfl mm rfl ?_; apply TL_nil; apply TQ_any
        refine TA_stepL [3, 4] (by kernel_rfl) rfl ⟨?_, ?_, trivial⟩
        · change TL _ _ _ _ _ _ _ _ _ _ _
          refine TL_load1 rfl rfl mm rfl ?_; apply TL_nil; apply TQ_any
          refine TA_stepL [4] (by kernel_rfl) rfl ⟨?_, trivial⟩
          change TL _ _ _ _ _ _ _ _ _ _ _
          refine TL_store rfl rfl rfl rfl rfl up rfl ?_; apply TL_nil; apply TQ_any
          refine TA_stepL [5] (by kernel_rfl) rfl ⟨?_, trivial⟩
          change TL _ _ _ _ _ _ _ _ _ _ _
          refine TL_store rfl rfl rfl rfl rfl up rfl ?_; apply TL_nil; apply TQ_any
          refine TA_stepL [6] (by kernel_rfl) rfl ⟨?_, trivial⟩
          change TL _ _ _ _ _ _ _ _ _ _ _
          refine TL_store rfl rfl rfl rfl rfl up rfl ?_; apply TL_nil; apply TQ_any
          refine TA_done (by kernel_rfl) ?_
          exact TQ_end0 Try.results72 (fun w' hs => ⟨⟨_, rfl⟩, rfl, hs.sub (List.sublist_cons_self _ _)⟩)
        · change TL _ _ _ _ _ _ _ _ _ _ _
          refine TL_store rfl rfl rfl rfl rfl up rfl ?_; apply TL_nil; apply TQ_any
          refine TA_stepL [3, 5] (by kernel_rfl) rfl ⟨?_, ?_, trivial⟩
          · change TL _ _ _ _ _ _ _ _ _ _ _
            refine TL_load1 rfl rfl mm rfl ?_; apply TL_nil; apply TQ_any
            refine TA_stepL [5] (by kernel_rfl) rfl ⟨?_, trivial⟩
            change TL _ _ _ _ _ _ _ _ _ _ _
            refine TL_store rfl rfl rfl rfl rfl up rfl ?_; apply TL_nil; apply TQ_any
            refine TA_stepL [6] (by kernel_rfl) rfl ⟨?_, trivial⟩
            change TL _ _ _ _ _ _ _ _ _ _ _
            refine TL_store rfl rfl rfl rfl rfl up rfl ?_; apply TL_nil; apply TQ_any
            refine TA_done (by kernel_rfl) ?_
            exact TQ_end0 Try.results72 (fun w' hs => ⟨⟨_, rfl⟩, rfl, hs.sub (List.sublist_cons_self _ _)⟩)
          · change TL _ _ _ _ _ _ _ _ _ _ _
            refine TL_store rfl rfl rfl rfl rfl up rfl ?_; apply TL_nil; apply TQ_any
            refine TA_stepL [3] (by kernel_rfl) rfl ⟨?_, trivial⟩
            change TL _ _ _ _ _ _ _ _ _ _ _
            refine TL_load1 rfl rfl mm rfl ?_; apply TL_nil; apply TQ_any
            refine TA_stepL [6] (by kernel_rfl) rfl ⟨?_, trivial⟩
            change TL _ _ _ _ _ _ _ _ _ _ _
            refine TL_store rfl rfl rfl rfl rfl up rfl ?_; apply TL_nil; apply TQ_any
            refine TA_done (by kernel_rfl) ?_
            exact TQ_end0 Try.results72 (fun w' hs => ⟨⟨_, rfl⟩, rfl, hs.sub (List.sublist_cons_self _ _)⟩)
      · change TL _ _ _ _ _ _ _ _ _ _ _
        refine TL_load1 rfl rfl mm rfl ?_; apply TL_nil; apply TQ_any
        refine TA_stepL [1, 4] (by kernel_rfl) rfl ⟨?_, ?_, trivial⟩
        · change TL _ _ _ _ _ _ _ _ _ _ _
          refine TL_load1 rfl rfl mm rfl ?_; apply TL_nil; apply TQ_any
          refine TA_stepL [4] (by kernel_rfl) rfl ⟨?_, trivial⟩
          change TL _ _ _ _ _ _ _ _ _ _ _
          refine TL_store rfl rfl rfl rfl rfl up rfl ?_; apply TL_nil; apply TQ_any
          refine TA_stepL [5] (by kernel_rfl) rfl ⟨?_, trivial⟩
          change TL _ _ _ _ _ _ _ _ _ _ _
          refine TL_store rfl rfl rfl rfl rfl up rfl ?_; apply TL_nil; apply TQ_any
          refine TA_stepL [6] (by kernel_rfl) rfl ⟨?_, trivial⟩
          change TL _ _ _ _ _ _ _ _ _ _ _
          refine TL_store rfl rfl rfl rfl rfl up rfl ?_; apply TL_nil; apply TQ_any
          refine TA_done (by kernel_rfl) ?_
          exact TQ_end0 Try.results72 (fun w' hs => ⟨⟨_, rfl⟩, rfl, hs.sub (List.sublist_cons_self _ _)⟩)
        · change TL _ _ _ _ _ _ _ _ _ _ _
          refine TL_store rfl rfl rfl rfl rfl up rfl ?_; apply TL_nil; apply TQ_any
          refine TA_stepL [1] (by kernel_rfl) rfl ⟨?_, trivial⟩
          change TL _ _ _ _ _ _ _ _ _ _ _
          refine TL_load1 rfl rfl mm rfl ?_; apply TL_nil; apply TQ_any
          refine TA_stepL [5] (by kernel_rfl) rfl ⟨?_, trivial⟩
          change TL _ _ _ _ _ _ _ _ _ _ _
          refine TL_store rfl rfl rfl rfl rfl up rfl ?_; apply TL_nil; apply TQ_any
          refine TA_stepL [6] (by kernel_rfl) rfl ⟨?_, trivial⟩
          change TL _ _ _ _ _ _ _ _ _ _ _
          refine TL_store rfl rfl rfl rfl rfl up rfl ?_; apply TL_nil; apply TQ_any
          refine TA_done (by kernel_rfl) ?_
          exact TQ_end0 Try.results72 (fun w' hs => ⟨⟨_, rfl⟩, rfl, hs.sub (List.sublist_cons_self _ _)⟩)
      · change TL _ _ _ _ _ _ _ _ _ _ _
        refine TL_store rfl rfl rfl rfl rfl up rfl ?_; apply TL_nil; apply TQ_any
        refine TA_stepL [1, 3] (by kernel_rfl) rfl ⟨?_, ?_, trivial⟩
        · change TL _ _ _ _ _ _ _ _ _ _ _
          refine TL_load1 rfl rfl mm rfl ?_; apply TL_nil; apply TQ_any
          refine TA_stepL [3, 5] (by kernel_rfl) rfl ⟨?_, ?_, trivial⟩
          · change TL _ _ _ _ _ _ _ _ _ _ _
            refine TL_load1 rfl rfl mm rfl ?_; apply TL_nil; apply TQ_any
            refine TA_stepL [5] (by kernel_rfl) rfl ⟨?_, trivial⟩
            change TL _ _ _ _ _ _ _ _ _ _ _
            refine TL_store rfl rfl rfl rfl rfl up rfl ?_; apply TL_nil; apply TQ_any
            refine TA_stepL [6] (by kernel_rfl) rfl ⟨?_, trivial⟩
            change TL _ _ _ _ _ _ _ _ _ _ _
            refine TL_store rfl rfl rfl rfl rfl up rfl ?_; apply TL_nil; apply TQ_any
            refine TA_done (by kernel_rfl) ?_
            exact TQ_end0 Try.results72 (fun w' hs => ⟨⟨_, rfl⟩, rfl, hs.sub (List.sublist_cons_self _ _)⟩)
          · change TL _ _ _ _ _ _ _ _ _ _ _
            refine TL_store rfl rfl rfl rfl rfl up rfl ?_; apply TL_nil; apply TQ_any
            refine TA_stepL [3] (by kernel_rfl) rfl ⟨?_, trivial⟩
            change TL _ _ _ _ _ _ _ _ _ _ _
            refine TL_load1 rfl rfl mm rfl ?_; apply TL_nil; apply TQ_any
            refine TA_stepL [6] (by kernel_rfl) rfl ⟨?_, trivial⟩
            change TL _ _ _ _ _ _ _ _ _ _ _
            refine TL_store rfl rfl rfl rfl rfl up rfl ?_; apply TL_nil; apply TQ_any
            refine TA_done (by kernel_rfl) ?_
            exact TQ_end0 Try.results72 (fun w' hs => ⟨⟨_, rfl⟩, rfl, hs.sub (List.sublist_cons_self _ _)⟩)
        · change TL _ _ _ _ _ _ _ _ _ _ _
          refine TL_load1 rfl rfl mm rfl ?_; apply TL_nil; apply TQ_any
          refine TA_stepL [1] (by kernel_rfl) rfl ⟨?_, trivial⟩
          change TL _ _ _ _ _ _ _ _ _ _ _
          refine TL_load1 rfl rfl mm rfl ?_; apply TL_nil; apply TQ_any
          refine TA_stepL [5] (by kernel_rfl) rfl ⟨?_, trivial⟩
          change TL _ _ _ _ _ _ _ _ _ _ _
          refine TL_store rfl rfl rfl rfl rfl up rfl ?_; apply TL_nil; apply TQ_any
          refine TA_stepL [6] (by kernel_rfl) rfl ⟨?_, trivial⟩
          change TL _ _ _ _ _ _ _ _ _ _ _
          refine TL_store rfl rfl rfl rfl rfl up rfl ?_; apply TL_nil; apply TQ_any
          refine TA_done (by kernel_rfl) ?_
          exact TQ_end0 Try.results72 (fun w' hs => ⟨⟨_, rfl⟩, rfl, hs.sub (List.sublist_cons_self _ _)⟩)
    · change TL _ _ _ _ _ _ _ _ _ _ _
      refine TL_load1 rfl rfl mm rfl ?_; apply TL_nil; apply TQ_any
      refine TA_stepL [0, 4] (by kernel_rfl) rfl ⟨?_, ?_, trivial⟩
      · change TL _ _ _ _ _ _ _ _ _ _ _
        refine TL_fieldAddr rfl rfl ?_; apply TL_nil; apply TQ_any
        refine TA_stepL [1, 4] (by kernel_rfl) rfl ⟨?_, ?_, trivial⟩
        · change TL _ _ _ _ _ _ _ _ _ _ _
          refine TL_load1 rfl rfl mm rfl ?_; apply TL_nil; apply TQ_any
          refine TA_stepL [4] (by kernel_rfl) rfl ⟨?_, trivial⟩
          change TL _ _ _ _ _ _ _ _ _ _ _
          refine TL_store rfl rfl rfl rfl rfl up rfl ?_; apply TL_nil; apply TQ_any
          refine TA_stepL [5] (by kernel_rfl) rfl ⟨?_, trivial⟩
          change TL _ _ _ _ _ _ _ _ _ _ _
          refine TL_store rfl rfl rfl rfl rfl up rfl ?_; apply TL_nil; apply TQ_any
          refine TA_stepL [6] (by kernel_rfl) rfl ⟨?_, trivial⟩
          change TL _ _ _ _ _ _ _ _ _ _ _
          refine TL_store rfl rfl rfl rfl rfl up rfl ?_; apply TL_nil; apply TQ_any
          refine TA_done (by kernel_rfl) ?_
          exact TQ_end0 Try.results72 (fun w' hs => ⟨⟨_, rfl⟩, rfl, hs.sub (List.sublist_cons_self _ _)⟩)
        · change TL _ _ _ _ _ _ _ _ _ _ _
          refine TL_store rfl rfl rfl rfl rfl up rfl ?_; apply TL_nil; apply TQ_any
          refine TA_stepL [1] (by kernel_rfl) rfl ⟨?_, trivial⟩
          change TL _ _ _ _ _ _ _ _ _ _ _
          refine TL_load1 rfl rfl mm rfl ?_; apply TL_nil; apply TQ_any
          refine TA_stepL [5] (by kernel_rfl) rfl ⟨?_, trivial⟩
          change TL _ _ _ _ _ _ _ _ _ _ _
          refine TL_store rfl rfl rfl rfl rfl up rfl ?_; apply TL_nil; apply TQ_any
          refine TA_stepL [6] (by kernel_rfl) rfl ⟨?_, trivial⟩
          change TL _ _ _ _ _ _ _ _ _ _ _
          refine TL_store rfl rfl rfl rfl rfl up rfl ?_; apply TL_nil; apply TQ_any
          refine TA_done (by kernel_rfl) ?_
          exact TQ_end0 Try.results72 (fun w' hs => ⟨⟨_, rfl⟩, rfl, hs.sub (List.sublist_cons_self _ _)⟩)
      · change TL _ _ _ _ _ _ _ _ _ _ _
        refine TL_store rfl rfl rfl rfl rfl up rfl ?_; apply TL_nil; apply TQ_any
        refine TA_stepL [0] (by kernel_rfl) rfl ⟨?_, trivial⟩
        change TL _ _ _ _ _ _ _ _ _ _ _
        refine TL_fieldAddr rfl rfl ?_; apply TL_nil; apply TQ_any
        refine TA_stepL [1] (by kernel_rfl) rfl ⟨?_, trivial⟩
        change TL _ _ _ _ _ _ _ _ _ _ _
        refine TL_load1 rfl rfl mm rfl ?_; apply TL_nil; apply TQ_any
        refine TA_stepL [5] (by kernel_rfl) rfl ⟨?_, trivial⟩
        change TL _ _ _ _ _ _ _ _ _ _ _
        refine TL_store rfl rfl rfl rfl rfl up rfl ?_; apply TL_nil; apply TQ_any
        refine TA_stepL [6] (by kernel_rfl) rfl ⟨?_, trivial⟩
        change TL _ _ _ _ _ _ _ _ _ _ _
        refine TL_store rfl rfl rfl rfl rfl up rfl ?_; apply TL_nil; apply TQ_any
        refine TA_done (by kernel_rfl) ?_
        exact TQ_end0 Try.results72 (fun w' hs => ⟨⟨_, rfl⟩, rfl, hs.sub (List.sublist_cons_self _ _)⟩)
    · change TL _ _ _ _ _ _ _ _ _ _ _
      refine TL_store rfl rfl rfl rfl rfl up rfl ?_; apply TL_nil; apply TQ_any
      refine TA_stepL [0, 3] (by kernel_rfl) rfl ⟨?_, ?_, trivial⟩
      · change TL _ _ _ _ _ _ _ _ _ _ _
        refine TL_fieldAddr rfl rfl ?_; apply TL_nil; apply TQ_any
        refine TA_stepL [1, 3] (by kernel_rfl) rfl ⟨?_, ?_, trivial⟩
        · change TL _ _ _ _ _ _ _ _ _ _ _
          refine TL_load1 rfl rfl mm rfl ?_; apply TL_nil; apply TQ_any
          refine TA_stepL [3, 5] (by kernel_rfl) rfl ⟨?_, ?_, trivial⟩
          · change TL _ _ _ _ _ _ _ _ _ _ _
            refine TL_load1 rfl rfl mm rfl ?_; apply TL_nil; apply TQ_any
            refine TA_stepL [5] (by kernel_rfl) rfl ⟨?_, trivial⟩
            change TL _ _ _ _ _ _ _ _ _ _ _
            refine TL_store rfl rfl rfl rfl rfl up rfl ?_; apply TL_nil; apply TQ_any
            refine TA_stepL [6] (by kernel_rfl) rfl ⟨?_, trivial⟩
            change TL _ _ _ _ _ _ _ _ _ _ _
            refine TL_store rfl rfl rfl rfl rfl up rfl ?_; apply TL_nil; apply TQ_any
            refine TA_done (by kernel_rfl) ?_
            exact TQ_end0 Try.results72 (fun w' hs => ⟨⟨_, rfl⟩, rfl, hs.sub (List.sublist_cons_self _ _)⟩)
          · change TL _ _ _ _ _ _ _ _ _ _ _
            refine TL_store rfl rfl rfl rfl rfl up rfl ?_; apply TL_nil; apply TQ_any
            refine TA_stepL [3] (by kernel_rfl) rfl ⟨?_, trivial⟩
            change TL _ _ _ _ _ _ _ _ _ _ _
            refine TL_load1 rfl rfl mm rfl ?_; apply TL_nil; apply TQ_any
            refine TA_stepL [6] (by kernel_rfl) rfl ⟨?_, trivial⟩
            change TL _ _ _ _ _ _ _ _ _ _ _
            refine TL_store rfl rfl rfl rfl rfl up rfl ?_; apply TL_nil; apply TQ_any
            refine TA_done (by kernel_rfl) ?_
            exact TQ_end0 Try.results72 (fun w' hs => ⟨⟨_, rfl⟩, rfl, hs.sub (List.sublist_cons_self _ _)⟩)
        · change TL _ _ _ _ _ _ _ _ _ _ _
          refine TL_load1 rfl rfl mm rfl ?_; apply TL_nil; apply TQ_any
          refine TA_stepL [1] (by kernel_rfl) rfl ⟨?_, trivial⟩
          change TL _ _ _ _ _ _ _ _ _ _ _
          refine TL_load1 rfl rfl mm rfl ?_; apply TL_nil; apply TQ_any
          refine TA_stepL [5] (by kernel_rfl) rfl ⟨?_, trivial⟩
          change TL _ _ _ _ _ _ _ _ _ _ _
          refine TL_store rfl rfl rfl rfl rfl up rfl ?_; apply TL_nil; apply TQ_any
          refine TA_stepL [6] (by kernel_rfl) rfl ⟨?_, trivial⟩
          change TL _ _ _ _ _ _ _ _ _ _ _
          refine TL_store rfl rfl rfl rfl rfl up rfl ?_; apply TL_nil; apply TQ_any
          refine TA_done (by kernel_rfl) ?_
          exact TQ_end0 Try.results72 (fun w' hs => ⟨⟨_, rfl⟩, rfl, hs.sub (List.sublist_cons_self _ _)⟩)
      · change TL _ _ _ _ _ _ _ _ _ _ _
        refine TL_load1 rfl rfl mm rfl ?_; apply TL_nil; apply TQ_any
        refine TA_stepL [0] (by kernel_rfl) rfl ⟨?_, trivial⟩
        change TL _ _ _ _ _ _ _ _ _ _ _
        refine TL_fieldAddr rfl rfl ?_; apply TL_nil; apply TQ_any
        refine TA_stepL [1] (by kernel_rfl) rfl ⟨?_, trivial⟩
        change TL _ _ _ _ _ _ _ _ _ _ _
        refine TL_load1 rfl rfl mm rfl ?_; apply TL_nil; apply TQ_any
        refine TA_stepL [5] (by kernel_rfl) rfl ⟨?_, trivial⟩
        change TL _ _ _ _ _ _ _ _ _ _ _
        refine TL_store rfl rfl rfl rfl rfl up rfl ?_; apply TL_nil; apply TQ_any
        refine TA_stepL [6] (by kernel_rfl) rfl ⟨?_, trivial⟩
        change TL _ _ _ _ _ _ _ _ _ _ _
        refine TL_store rfl rfl rfl rfl rfl up rfl ?_; apply TL_nil; apply TQ_any
        refine TA_done (by kernel_rfl) ?_
        exact TQ_end0 Try.results72 (fun w' hs => ⟨⟨_, rfl⟩, rfl, hs.sub (List.sublist_cons_self _ _)⟩)
  · change TL _ _ _ _ _ _ _ _ _ _ _
    refine TL_store rfl rfl rfl rfl rfl up rfl ?_; apply TL_nil; apply TQ_any
    refine TA_stepL [0, 2] (by kernel_rfl) rfl ⟨?_, ?_, trivial⟩
    · change TL _ _ _ _ _ _ _ _ _ _ _
      refine TL_fieldAddr rfl rfl ?_; apply TL_nil; apply TQ_any
      refine TA_stepL [1, 2] (by kernel_rfl) rfl ⟨?_, ?_, trivial⟩
      · change TL _ _ _ _ _ _ _ _ _ _ _
        refine TL_load1 rfl rfl mm rfl ?_; apply TL_nil; apply TQ_any
        refine TA_stepL [2, 5] (by kernel_rfl) rfl ⟨?_, ?_, trivial⟩
        · change TL _ _ _ _ _ _ _ _ _ _ _
          refine TL_fieldAddr rfl rfl ?_; apply TL_nil; apply TQ_any
          refine TA_stepL [3, 5] (by kernel_rfl) rfl ⟨?_, ?_, trivial⟩
          · change TL _ _ _ _ _ _ _ _ _ _ _
            refine TL_load1 rfl rfl mm rfl ?_; apply TL_nil; apply TQ_any
            refine TA_stepL [5] (by kernel_rfl) rfl ⟨?_, trivial⟩
            change TL _ _ _ _ _ _ _ _ _ _ _
            refine TL_store rfl rfl rfl rfl rfl up rfl ?_; apply TL_nil; apply TQ_any
            refine TA_stepL [6] (by kernel_rfl) rfl ⟨?_, trivial⟩
            change TL _ _ _ _ _ _ _ _ _ _ _
            refine TL_store rfl rfl rfl rfl rfl up rfl ?_; apply TL_nil; apply TQ_any
            refine TA_done (by kernel_rfl) ?_
            exact TQ_end0 Try.results72 (fun w' hs => ⟨⟨_, rfl⟩, rfl, hs.sub (List.sublist_cons_self _ _)⟩)
          · change TL _ _ _ _ _ _ _ _ _ _ _
            refine TL_store rfl rfl rfl rfl rfl up rfl ?_; apply TL_nil; apply TQ_any
            refine TA_stepL [3] (by kernel_rfl) rfl ⟨?_, trivial⟩
            change TL _ _ _ _ _ _ _ _ _ _ _
            refine TL_load1 rfl rfl mm rfl ?_; apply TL_nil; apply TQ_any
            refine TA_stepL [6] (by kernel_rfl) rfl ⟨?_, trivial⟩
            change TL _ _ _ _ _ _ _ _ _ _ _
            refine TL_store rfl rfl rfl rfl rfl up rfl ?_; apply TL_nil; apply TQ_any
            refine TA_done (by kernel_rfl) ?_
            exact TQ_end0 Try.results72 (fun w' hs => ⟨⟨_, rfl⟩, rfl, hs.sub (List.sublist_cons_self _ _)⟩)
        · change TL _ _ _ _ _ _ _ _ _ _ _
          refine TL_store rfl rfl rfl rfl rfl up rfl ?_; apply TL_nil; apply TQ_any
          refine TA_stepL [2] (by kernel_rfl) rfl ⟨?_, trivial⟩
          change TL _ _ _ _ _ _ _ _ _ _ _
          refine TL_fieldAddr rfl rfl ?_; apply TL_nil; apply TQ_any
          refine TA_stepL [3] (by kernel_rfl) rfl ⟨?_, trivial⟩
          change TL _ _ _ _ _ _ _ _ _ _ _
          refine TL_load1 rfl rfl mm rfl ?_; apply TL_nil; apply TQ_any
          refine TA_stepL [6] (by kernel_rfl) rfl ⟨?_, trivial⟩
          change TL _ _ _ _ _ _ _ _ _ _ _
          refine TL_store rfl rfl rfl rfl rfl up rfl ?_; apply TL_nil; apply TQ_any
          refine TA_done (by kernel_rfl) ?_
          exact TQ_end0 Try.results72 (fun w' hs => ⟨⟨_, rfl⟩, rfl, hs.sub (List.sublist_cons_self _ _)⟩)
      · change TL _ _ _ _ _ _ _ _ _ _ _
        refine TL_fieldAddr rfl rfl ?_; apply TL_nil; apply TQ_any
        refine TA_stepL [1, 3] (by kernel_rfl) rfl ⟨?_, ?_, trivial⟩
        · change TL _ _ _ _ _ _ _ _ _ _ _
          refine TL_load1 rfl rfl mm rfl ?_; apply TL_nil; apply TQ_any
          refine TA_stepL [3, 5] (by kernel_rfl) rfl ⟨?_, ?_, trivial⟩
          · change TL _ _ _ _ _ _ _ _ _ _ _
            refine TL_load1 rfl rfl mm rfl ?_; apply TL_nil; apply TQ_any
            refine TA_stepL [5] (by kernel_rfl) rfl ⟨?_, trivial⟩
            change TL _ _ _ _ _ _ _ _ _ _ _
            refine TL_store rfl rfl rfl rfl rfl up rfl ?_; apply TL_nil; apply TQ_any
            refine TA_stepL [6] (by kernel_rfl) rfl ⟨?_, trivial⟩
            change TL _ _ _ _ _ _ _ _ _ _ _
            refine TL_store rfl rfl rfl rfl rfl up rfl ?_; apply TL_nil; apply TQ_any
            refine TA_done (by kernel_rfl) ?_
            exact TQ_end0 Try.results72 (fun w' hs => ⟨⟨_, rfl⟩, rfl, hs.sub (List.sublist_cons_self _ _)⟩)
          · change TL _ _ _ _ _ _ _ _ _ _ _
            refine TL_store rfl rfl rfl rfl rfl up rfl ?_; apply TL_nil; apply TQ_any
            refine TA_stepL [3] (by kernel_rfl) rfl ⟨?_, trivial⟩
            change TL _ _ _ _ _ _ _ _ _ _ _
            refine TL_load1 rfl rfl mm rfl ?_; apply TL_nil; apply TQ_any
            refine TA_stepL [6] (by kernel_rfl) rfl ⟨?_, trivial⟩
            change TL _ _ _ _ _ _ _ _ _ _ _
            refine TL_store rfl rfl rfl rfl rfl up rfl ?_; apply TL_nil; apply TQ_any
            refine TA_done (by kernel_rfl) ?_
            exact TQ_end0 Try.results72 (fun w' hs => ⟨⟨_, rfl⟩, rfl, hs.sub (List.sublist_cons_self _ _)⟩)
        · change TL _ _ _ _ _ _ _ _ _ _ _
          refine TL_load1 rfl rfl mm rfl ?_; apply TL_nil; apply TQ_any
          refine TA_stepL [1] (by kernel_rfl) rfl ⟨?_, trivial⟩
          change TL _ _ _ _ _ _ _ _ _ _ _
          refine TL_load1 rfl rfl mm rfl ?_; apply TL_nil; apply TQ_any
          refine TA_stepL [5] (by kernel_rfl) rfl ⟨?_, trivial⟩
          change TL _ _ _ _ _ _ _ _ _ _ _
          refine TL_store rfl rfl rfl rfl rfl up rfl ?_; apply TL_nil; apply TQ_any
          refine TA_stepL [6] (by kernel_rfl) rfl ⟨?_, trivial⟩
          change TL _ _ _ _ _ _ _ _ _ _ _
          refine TL_store rfl rfl rfl rfl rfl up rfl ?_; apply TL_nil; apply TQ_any
          refine TA_done (by kernel_rfl) ?_
          exact TQ_end0 Try.results72 (fun w' hs => ⟨⟨_, rfl⟩, rfl, hs.sub (List.sublist_cons_self _ _)⟩)
    · change TL _ _ _ _ _ _ _ _ _ _ _
      refine TL_fieldAddr rfl rfl ?_; apply TL_nil; apply TQ_any
      refine TA_stepL [0, 3] (by kernel_rfl) rfl ⟨?_, ?_, trivial⟩
      · change TL _ _ _ _ _ _ _ _ _ _ _
        refine TL_fieldAddr rfl rfl ?_; apply TL_nil; apply TQ_any
        refine TA_stepL [1, 3] (by kernel_rfl) rfl ⟨?_, ?_, trivial⟩
        · change TL _ _ _ _ _ _ _ _ _ _ _
          refine TL_load1 rfl rfl mm rfl ?_; apply TL_nil; apply TQ_any
          refine TA_stepL [3, 5] (by kernel_rfl) rfl ⟨?_, ?_, trivial⟩
          · change TL _ _ _ _ _ _ _ _ _ _ _
            refine TL_load1 rfl rfl mm rfl ?_; apply TL_nil; apply TQ_any
            refine TA_stepL [5] (by kernel_rfl) rfl ⟨?_, trivial⟩
            change TL _ _ _ _ _ _ _ _ _ _ _
            refine TL_store rfl rfl rfl rfl rfl up rfl ?_; apply TL_nil; apply TQ_any
            refine TA_stepL [6] (by kernel_rfl) rfl ⟨?_, trivial⟩
            change TL _ _ _ _ _ _ _ _ _ _ _
            refine TL_store rfl rfl rfl rfl rfl up rfl ?_; apply TL_nil; apply TQ_any
            refine TA_done (by kernel_rfl) ?_
            exact TQ_end0 Try.results72 (fun w' hs => ⟨⟨_, rfl⟩, rfl, hs.sub (List.sublist_cons_self _ _)⟩)
          · change TL _ _ _ _ _ _ _ _ _ _ _
            refine TL_store rfl rfl rfl rfl rfl up rfl ?_; apply TL_nil; apply TQ_any
            refine TA_stepL [3] (by kernel_rfl) rfl ⟨?_, trivial⟩
            change TL _ _ _ _ _ _ _ _ _ _ _
            refine TL_load1 rfl rfl mm rfl ?_; apply TL_nil; apply TQ_any
            refine TA_stepL [6] (by kernel_rfl) rfl ⟨?_, trivial⟩
            change TL _ _ _ _ _ _ _ _ _ _ _
            refine TL_store rfl rfl rfl rfl rfl up rfl ?_; apply TL_nil; apply TQ_any
            refine TA_done (by kernel_rfl) ?_
            exact TQ_end0 Try.results72 (fun w' hs => ⟨⟨_, rfl⟩, rfl, hs.sub (List.sublist_cons_self _ _)⟩)
        · change TL _ _ _ _ _ _ _ _ _ _ _
          refine TL_load1 rfl rfl mm rfl ?_; apply TL_nil; apply TQ_any
          refine TA_stepL [1] (by kernel_rfl) rfl ⟨?_, trivial⟩
          change TL _ _ _ _ _ _ _ _ _ _ _
          refine TL_load1 rfl rfl mm rfl ?_; apply TL_nil; apply TQ_any
          refine TA_stepL [5] (by kernel_rfl) rfl ⟨?_, trivial⟩
          change TL _ _ _ _ _ _ _ _ _ _ _
          refine TL_store rfl rfl rfl rfl rfl up rfl ?_; apply TL_nil; apply TQ_any
          refine TA_stepL [6] (by kernel_rfl) rfl ⟨?_, trivial⟩
          change TL _ _ _ _ _ _ _ _ _ _ _
          refine TL_store rfl rfl rfl rfl rfl up rfl ?_; apply TL_nil; apply TQ_any
          refine TA_done (by kernel_rfl) ?_
          exact TQ_end0 Try.results72 (fun w' hs => ⟨⟨_, rfl⟩, rfl, hs.sub (List.sublist_cons_self _ _)⟩)
      · change TL _ _ _ _ _ _ _ _ _ _ _
        refine TL_load1 rfl rfl mm rfl ?_; apply TL_nil; apply TQ_any
        refine TA_stepL [0] (by kernel_rfl) rfl ⟨?_, trivial⟩
        change TL _ _ _ _ _ _ _ _ _ _ _
        refine TL_fieldAddr rfl rfl ?_; apply TL_nil; apply TQ_any
        refine TA_stepL [1] (by kernel_rfl) rfl ⟨?_, trivial⟩
        change TL _ _ _ _ _ _ _ _ _ _ _
        refine TL_load1 rfl rfl mm rfl ?_; apply TL_nil; apply TQ_any
        refine TA_stepL [5] (by kernel_rfl) rfl ⟨?_, trivial⟩
        change TL _ _ _ _ _ _ _ _ _ _ _
        refine TL_store rfl rfl rfl rfl rfl up rfl ?_; apply TL_nil; apply TQ_any
        refine TA_stepL [6] (by kernel_rfl) rfl ⟨?_, trivial⟩
        change TL _ _ _ _ _ _ _ _ _ _ _
        refine TL_store rfl rfl rfl rfl rfl up rfl ?_; apply TL_nil; apply TQ_any
        refine TA_done (by kernel_rfl) ?_
        exact TQ_end0 Try.results72 (fun w' hs => ⟨⟨_, rfl⟩, rfl, hs.sub (List.sublist_cons_self _ _)⟩)
end Go.Proofs.Ytccgplomnjpniaa
/- Walks: date.run. -/
namespace Go.Proofs.Ytccgplomnjpniaa
open Go Go.Eng Go.RowKit Go.Proofs
set_option maxHeartbeats 1000000
set_option maxRecDepth 10000
attribute [local irreducible] TL TC TQ

theorem c47 (R : Rd) (g : Int) (ao : Option Addr) (c : Nat) (hR : OkRun R) (hg : In g 0 1000) (w : World) (ha : Sl w 3 encSn ao R.seas) :
    Calls Try.prog 47 #[.agg (encRd R ao c).toArray, .int .i64 g] w (RetP w.heap.size w (runV (runAll R g)) (fun q => q.2.2) (RunP (runAll R g))) := by
  have hlen : R.seas.length ≤ 20 := hR.2.2.2.2.2.1
  refine enterD (args := [.agg (encRd R ao c).toArray, .int .i64 g]) Try.func47 rfl Try.ntmps47 rfl (SH.refl _) ?_
  repeat' (first | refine rn ?_ | (apply TL_box; exact rfl; exact rfl; exact rfl; intro _ _) | (apply TL_alloc; exact rfl; intro _ _) | (apply TL_buildSlice; exact rfl; exact rfl; exact rfl; exact rfl; exact rfl; intro _ _))
  refine TL_defer rfl ?_
  repeat' (first | refine rn ?_ | (apply TL_box; exact rfl; exact rfl; exact rfl; intro _ _) | (apply TL_alloc; exact rfl; intro _ _) | (apply TL_buildSlice; exact rfl; exact rfl; exact rfl; exact rfl; exact rfl; intro _ _))
  rename_i b2 _ b4 _ b5 _ b6 _ b7 _
  refine TC_loop (σ := Nat × St × List St × Option Addr × Nat × Hp) (fun q => q.1 ≤ R.seas.length ∧ q.2.2.1.length = q.1 ∧ Bd q.1 q.2.1 ∧ runR R g (R.seas.drop q.1) q.1 q.2.1 q.2.2.1 = runAll R g ∧ Row 97 4 encSt q.2.2.2.1 q.2.2.2.2.1 q.2.2.2.2.2 q.2.2.1)
    (fun q => [(1, .int .i64 g), (2, .pointer (some ⟨b2, 0, none⟩)), (4, .pointer (some ⟨b4, 0, none⟩)), (5, .pointer (some ⟨b5, 0, none⟩)), (6, .pointer (some ⟨b6, 0, none⟩)), (7, .pointer (some ⟨b7, 0, none⟩)), (17, .int .i64 R.seas.length), (18, .int .i64 q.1)])
    (fun q => q.2.2.2.2.2 ++ [(b7, .cells (encSt q.2.1) 97), (b6, .cells [.int .i64 0] 28), (b5, .cells [.int .i64 0] 3), (b4, .cells [.slice q.2.2.2.1 q.2.2.1.length q.2.2.2.2.1] 27), (b2, .cells (encRd R ao c) 26)]) (fun q => R.seas.length - q.1) (0, (R.fod, R.dung), [], none, 0, [])
    ⟨Nat.zero_le _, rfl, ?_, rfl, Row.nil _ _ _⟩ sb (fun w h => h) ?_
  · obtain ⟨h1, h2, h3⟩ := hR
    simp only [Ord, Bd] at *
    omega
  rintro ⟨k, s, acc, so, sc, ob⟩ ⟨hk, hacc, hbd, hrun, hrow⟩
  dsimp only at hk hacc hbd hrun hrow ⊢
  repeat' (first | refine rn ?_ | (apply TL_box; exact rfl; exact rfl; exact rfl; intro _ _) | (apply TL_alloc; exact rfl; intro _ _) | (apply TL_buildSlice; exact rfl; exact rfl; exact rfl; exact rfl; exact rfl; intro _ _))
  refine TC_cond_dec rfl (fun h1 => ?_) (fun h1 => ?_)
  · have hlt : k < R.seas.length := by omega
    obtain ⟨x, hx⟩ : ∃ x, R.seas[k]? = some x := ⟨_, List.getElem?_eq_getElem hlt⟩
    have hxm : x ∈ R.seas := List.mem_of_getElem? hx
    have hp := prods hR hg hxm
    have hdrop : R.seas.drop k = x :: R.seas.drop (k + 1) := by
      rw [List.drop_eq_getElem_cons hlt]; congr 1
      rw [List.getElem?_eq_getElem hlt] at hx; cases hx; rfl
    rw [hdrop, runR] at hrun
    repeat' (first | refine rn ?_ | (apply TL_box; exact rfl; exact rfl; exact rfl; intro _ _) | (apply TL_alloc; exact rfl; intro _ _) | (apply TL_buildSlice; exact rfl; exact rfl; exact rfl; exact rfl; exact rfl; intro _ _))
    cases hst : stepR R g s x with
    | inl e =>
      rw [hst] at hrun
      have eo : seasonO R g s x k = .error (stopV k e) := by simp [seasonO, hst]
      refine TL_callE rfl rfl rfl (fun w h => c73 R g s k x ao c hx (by omega) hp hbd w (h.sl ha)) (fun v hv => ?_) (fun v hv => ?_)
      · rw [eo] at hv; cases hv
      rw [eo] at hv; cases hv
      repeat (first | refine TQ_then_panic ?_ | refine TQ_block_panic ?_)
      refine TQ_leave3 (H' := [(b4, .cells [.slice none 0 0] 27), (b5, .cells [.int .i64 k] 3), (b6, .cells [.int .i64 e] 28)]) (.inr ⟨_, rfl, rfl⟩)
        (fun w hs => c72_stop (G := []) b4 b5 b6 k e (.slice so acc.length sc) w ((hs.sub (H' := [(b6, .cells [.int .i64 0] 28), (b5, .cells [.int .i64 0] 3), (b4, .cells [.slice so acc.length sc] 27)]) ?_).perm (List.reverse_perm [(b6, Blk.cells [.int .i64 0] 28), (b5, Blk.cells [.int .i64 0] 3), (b4, Blk.cells [.slice so acc.length sc] 27)])))
        Try.results47 (RV.cell1 rfl mm (by rfl)) (RV.cell1 rfl mm (by rfl)) (RV.cell1 rfl mm (by rfl)) (fun w' hs => ⟨(none, 0, []), ?_, ?_, hs.sub (List.nil_sublist _)⟩)
      · refine List.Sublist.trans ?_ (List.sublist_append_right ob _)
        refine List.Sublist.cons _ ?_
        exact (List.Sublist.refl _).cons_cons _ |>.cons_cons _ |>.trans (List.Sublist.refl _) |>.trans ((List.nil_sublist _).cons_cons _ |>.cons_cons _ |>.cons_cons _)
      · rw [← hrun]; exact Row.nil _ _ _
      · rw [← hrun]; rfl
    | inr s' =>
      rw [hst] at hrun
      have eo : seasonO R g s x k = .ok (.agg (encSt s').toArray) := by simp [seasonO, hst]
      refine TL_callE rfl rfl rfl (fun w h => c73 R g s k x ao c hx (by omega) hp hbd w (h.sl ha)) (fun v hv => ?_) (fun v hv => ?_)
      rotate_left
      · rw [eo] at hv; cases hv
      rw [eo] at hv; cases hv
      repeat' (first | refine rn ?_ | (apply TL_box; exact rfl; exact rfl; exact rfl; intro _ _) | (apply TL_alloc; exact rfl; intro _ _) | (apply TL_buildSlice; exact rfl; exact rfl; exact rfl; exact rfl; exact rfl; intro _ _))
      rename_i b28 _
      refine TL_append (l := acc) (l2 := [s']) (enc := encSt) (G := _) rfl (by rfl) rfl rfl rfl rfl rfl hrow (pm_cons pm_here) (fun w h => Sl.of_blk h mm (fun x hx => rfl) ⟨[], by rfl⟩) (fun u hu => rfl) (by simp only [List.length_singleton]; omega) (by simp only [List.length_singleton, maxLen]; omega) (fun so' sc' ob' hrow' => ?_)
      repeat' (first | refine rn ?_ | (apply TL_box; exact rfl; exact rfl; exact rfl; intro _ _) | (apply TL_alloc; exact rfl; intro _ _) | (apply TL_buildSlice; exact rfl; exact rfl; exact rfl; exact rfl; exact rfl; intro _ _))
      refine TQ_round (k + 1, s', acc ++ [s'], so', sc', ob') ⟨by dsimp only; omega, by simp [hacc], hbd.step hp hst, hrun, hrow'⟩ (by dsimp only; omega) sb (fun w h => h.sub (List.Sublist.append_left sl _))
  · have hkl : k = R.seas.length := by omega
    subst hkl
    rw [List.drop_length, runR] at hrun
    repeat' (first | refine rn ?_ | (apply TL_box; exact rfl; exact rfl; exact rfl; intro _ _) | (apply TL_alloc; exact rfl; intro _ _) | (apply TL_buildSlice; exact rfl; exact rfl; exact rfl; exact rfl; exact rfl; intro _ _))
    refine TQ_leave3 (.inl ⟨rfl, .inl rfl⟩) (fun w hs => c72_ret _ _ _ w hs) Try.results47 (RV.cell1 rfl mm (by rfl)) (RV.cell1 rfl mm (by rfl)) (RV.cell1 rfl mm (by rfl)) (fun w' hs => ⟨(so, sc, ob), ?_, ?_, hs.sub (List.sublist_append_left _ _)⟩)
    · rw [← hrun]; exact hrow
    · rw [← hrun]; rfl
end Go.Proofs.Ytccgplomnjpniaa
/- Walks: date.Go, least, starves, Goats. -/
namespace Go.Proofs.Ytccgplomnjpniaa
open Go Go.Eng Go.RowKit Go.Proofs
set_option maxHeartbeats 1000000
set_option maxRecDepth 10000
attribute [local irreducible] TL TC TQ

theorem c15 (R : Rd) (g : Int) (ao : Option Addr) (c : Nat) (hl : R.seas.length ≤ 4611686018427387904) (w : World) (ha : Sl w 3 encSn ao R.seas) :
    Calls Try.prog 15 #[.agg (encRd R ao c).toArray, .int .i64 g] w (RetP w.heap.size w (runV (goR R g)) (fun q => q.2.2) (RunP (goR R g))) := by
  refine enter (args := [.agg (encRd R ao c).toArray, .int .i64 g]) Try.func15 rfl Try.ntmps15 rfl (SH.refl _) ?_
  repeat' (first | refine rn ?_ | (apply TL_box; exact rfl; exact rfl; exact rfl; intro _ _) | (apply TL_alloc; exact rfl; intro _ _) | (apply TL_buildSlice; exact rfl; exact rfl; exact rfl; exact rfl; exact rfl; intro _ _))
  refine TL_callV rfl rfl rfl (fun w h => c45 R ao c hl w (h.sl ha)) ?_
  repeat' (first | refine rn ?_ | (apply TL_box; exact rfl; exact rfl; exact rfl; intro _ _) | (apply TL_alloc; exact rfl; intro _ _) | (apply TL_buildSlice; exact rfl; exact rfl; exact rfl; exact rfl; exact rfl; intro _ _))
  refine TC_cond_dec rfl (fun h1 => ?_) (fun h1 => ?_)
  · repeat' (first | refine rn ?_ | (apply TL_box; exact rfl; exact rfl; exact rfl; intro _ _) | (apply TL_alloc; exact rfl; intro _ _) | (apply TL_buildSlice; exact rfl; exact rfl; exact rfl; exact rfl; exact rfl; intro _ _))
    have e : goR R g = ([], 0, 83) := by unfold goR; rw [if_pos h1]
    rw [e]
    exact TQ_ret3 Try.results15 (RV.tmp rfl) (RV.tmp rfl) (RV.tmp rfl) (fun w' hs => ⟨(none, 0, []), Row.nil _ _ _, rfl, hs.sub (List.nil_sublist _)⟩)
  repeat' (first | refine rn ?_ | (apply TL_box; exact rfl; exact rfl; exact rfl; intro _ _) | (apply TL_alloc; exact rfl; intro _ _) | (apply TL_buildSlice; exact rfl; exact rfl; exact rfl; exact rfl; exact rfl; intro _ _))
  refine TL_callV rfl rfl rfl (fun w h => c46 0 1000 [g] _ 1 (by simp) w (Sl.of_blk h mm (fun y _ => rfl) ⟨[], rfl⟩)) ?_
  repeat' (first | refine rn ?_ | (apply TL_box; exact rfl; exact rfl; exact rfl; intro _ _) | (apply TL_alloc; exact rfl; intro _ _) | (apply TL_buildSlice; exact rfl; exact rfl; exact rfl; exact rfl; exact rfl; intro _ _))
  have hin : (∀ y ∈ [g], In y 0 1000) ↔ In g 0 1000 := by simp
  refine TC_cond_dec rfl (fun h2 => ?_) (fun h2 => ?_)
  · rw [hin] at h2
    repeat' (first | refine rn ?_ | (apply TL_box; exact rfl; exact rfl; exact rfl; intro _ _) | (apply TL_alloc; exact rfl; intro _ _) | (apply TL_buildSlice; exact rfl; exact rfl; exact rfl; exact rfl; exact rfl; intro _ _))
    have e : goR R g = ([], 0, 2) := by unfold goR; rw [if_neg h1, if_pos h2]
    rw [e]
    exact TQ_ret3 Try.results15 (RV.tmp rfl) (RV.tmp rfl) (RV.tmp rfl) (fun w' hs => ⟨(none, 0, []), Row.nil _ _ _, rfl, hs.sub (List.nil_sublist _)⟩)
  rw [hin] at h2
  have e : goR R g = runAll R g := by unfold goR; rw [if_neg h1, if_neg h2]
  rw [e]
  repeat' (first | refine rn ?_ | (apply TL_box; exact rfl; exact rfl; exact rfl; intro _ _) | (apply TL_alloc; exact rfl; intro _ _) | (apply TL_buildSlice; exact rfl; exact rfl; exact rfl; exact rfl; exact rfl; intro _ _))
  refine TL_callN rfl rfl rfl (fun w h => c47 R g ao c (Classical.not_not.1 h1).run (Classical.not_not.1 h2) w (h.sl ha)) ?_
  rintro ⟨so, sc, ob⟩ hq
  dsimp only at hq ⊢
  repeat' (first | refine rn ?_ | (apply TL_box; exact rfl; exact rfl; exact rfl; intro _ _) | (apply TL_alloc; exact rfl; intro _ _) | (apply TL_buildSlice; exact rfl; exact rfl; exact rfl; exact rfl; exact rfl; intro _ _))
  exact TQ_ret3 Try.results15 (RV.tmp rfl) (RV.tmp rfl) (RV.tmp rfl) (fun w' hs => ⟨(so, sc, ob), hq, rfl, hs.sub (List.sublist_append_left _ _)⟩)

/-- The search. -/
def searchR (so : Int → Bool) : Nat → Int → Int → Int
  | 0, lo, _ => lo
  | n + 1, lo, hi => if lo < hi then (if so ((lo + hi) / 2) then searchR so n lo ((lo + hi) / 2) else searchR so n ((lo + hi) / 2 + 1) hi) else lo
theorem searchR_done (so : Int → Bool) : ∀ (n : Nat) (lo hi : Int), ¬ lo < hi → searchR so n lo hi = lo := by
  intro n lo hi h
  cases n with
  | zero => rfl
  | succ n => rw [searchR, if_neg h]

theorem c50 {B : Nat} {w0 : World} (H0 : Hp) (so : Int → Bool) (kf : FuncId) (cl : List Value) [EntP Try.prog kf] (lo hi : Int) (hlo : 0 ≤ lo) (hhi : hi ≤ 1001) (hle : lo ≤ hi)
    (hcl : ∀ (n : Int), 0 ≤ n → n ≤ 1000 → ∀ w, SH B w0 w H0 → Calls Try.prog kf (Value.int .i64 n :: cl).toArray w (RetP B w0 (fun _ : Unit => .bool (so n)) (fun _ => H0) (fun _ => True))) (w : World) (hs : SH B w0 w H0) :
    Calls Try.prog 50 #[.int .i64 lo, .int .i64 hi, .func (.func kf) #[] cl.toArray] w (RetP B w0 (fun _ : Unit => .int .i64 (searchR so (hi - lo).toNat lo hi)) (fun _ => H0) (fun _ => True)) := by
  refine enter (args := [.int .i64 lo, .int .i64 hi, .func (.func kf) #[] cl.toArray]) Try.func50 rfl Try.ntmps50 rfl hs ?_
  repeat' (first | refine rn ?_ | (apply TL_box; exact rfl; exact rfl; exact rfl; intro _ _) | (apply TL_alloc; exact rfl; intro _ _) | (apply TL_buildSlice; exact rfl; exact rfl; exact rfl; exact rfl; exact rfl; intro _ _))
  refine TC_loop (σ := Nat × Int × Int) (fun q => 0 ≤ q.2.1 ∧ q.2.1 ≤ q.2.2 ∧ q.2.2 ≤ 1001 ∧ q.2.2 - q.2.1 ≤ (q.1 : Int) ∧ searchR so q.1 q.2.1 q.2.2 = searchR so (hi - lo).toNat lo hi)
    (fun q => [(0, .int .i64 q.2.1), (1, .int .i64 q.2.2), (2, .func (.func kf) #[] cl.toArray)]) (fun _ => H0) (fun q => q.1) ((hi - lo).toNat, lo, hi) ⟨hlo, hle, hhi, by dsimp only; omega, rfl⟩ sb (fun w h => h) ?_
  rintro ⟨k, a, b⟩ ⟨h1, h2, h3, h4, h5⟩
  dsimp only at h1 h2 h3 h4 h5 ⊢
  repeat' (first | refine rn ?_ | (apply TL_box; exact rfl; exact rfl; exact rfl; intro _ _) | (apply TL_alloc; exact rfl; intro _ _) | (apply TL_buildSlice; exact rfl; exact rfl; exact rfl; exact rfl; exact rfl; intro _ _))
  refine TC_cond_dec rfl (fun h6 => ?_) (fun h6 => ?_)
  · obtain ⟨k, rfl⟩ : ∃ j, k = j + 1 := ⟨k - 1, by omega⟩
    rw [searchR, if_pos h6] at h5
    repeat' (first | refine rn ?_ | (apply TL_box; exact rfl; exact rfl; exact rfl; intro _ _) | (apply TL_alloc; exact rfl; intro _ _) | (apply TL_buildSlice; exact rfl; exact rfl; exact rfl; exact rfl; exact rfl; intro _ _))
    refine TL_call rfl rfl rfl _ _ _ (fun w' h => hcl ((a + b) / 2) (by omega) (by omega) w' h) (fun _ _ => ?_)
    repeat' (first | refine rn ?_ | (apply TL_box; exact rfl; exact rfl; exact rfl; intro _ _) | (apply TL_alloc; exact rfl; intro _ _) | (apply TL_buildSlice; exact rfl; exact rfl; exact rfl; exact rfl; exact rfl; intro _ _))
    refine TC_cond rfl (fun h7 => ?_) (fun h7 => ?_)
    · rw [if_pos h7] at h5
      repeat' (first | refine rn ?_ | (apply TL_box; exact rfl; exact rfl; exact rfl; intro _ _) | (apply TL_alloc; exact rfl; intro _ _) | (apply TL_buildSlice; exact rfl; exact rfl; exact rfl; exact rfl; exact rfl; intro _ _))
      exact TQ_round (k, a, (a + b) / 2) ⟨h1, by dsimp only; omega, by dsimp only; omega, by dsimp only; omega, h5⟩ (by dsimp only; omega) sb (fun w h => h)
    · rw [h7] at h5
      repeat' (first | refine rn ?_ | (apply TL_box; exact rfl; exact rfl; exact rfl; intro _ _) | (apply TL_alloc; exact rfl; intro _ _) | (apply TL_buildSlice; exact rfl; exact rfl; exact rfl; exact rfl; exact rfl; intro _ _))
      exact TQ_round (k, (a + b) / 2 + 1, b) ⟨by dsimp only; omega, by dsimp only; omega, h3, by dsimp only; omega, h5⟩ (by dsimp only; omega) sb (fun w h => h)
  · rw [searchR_done so k a b h6] at h5
    repeat' (first | refine rn ?_ | (apply TL_box; exact rfl; exact rfl; exact rfl; intro _ _) | (apply TL_alloc; exact rfl; intro _ _) | (apply TL_buildSlice; exact rfl; exact rfl; exact rfl; exact rfl; exact rfl; intro _ _))
    rw [← h5]
    exact TQ_ret1 Try.results50 (RV.tmp rfl) (fun w' hs => ⟨(), trivial, rfl, hs⟩)

def richR (R : Rd) : Rd := { R with dung := (20000000, 20000000) }
def starvesR (R : Rd) (g : Int) : Bool := decide ((runAll (richR R) g).2.2 = 84)
theorem OkRd.rich {R : Rd} (h : OkRd R) : OkRun (richR R) := by
  obtain ⟨h1, h2, h3⟩ := h
  exact ⟨h1, by simp [richR, Ord], h3⟩

theorem c52 (R : Rd) (g : Int) (ao : Option Addr) (c : Nat) (hR : OkRd R) (hg : In g 0 1000) (w : World) (ha : Sl w 3 encSn ao R.seas) :
    Calls Try.prog 52 #[.agg (encRd R ao c).toArray, .int .i64 g] w (RetV w (.bool (starvesR R g))) := by
  refine enter (args := [.agg (encRd R ao c).toArray, .int .i64 g]) Try.func52 rfl Try.ntmps52 rfl (SH.refl _) ?_
  repeat' (first | refine rn ?_ | (apply TL_box; exact rfl; exact rfl; exact rfl; intro _ _) | (apply TL_alloc; exact rfl; intro _ _) | (apply TL_buildSlice; exact rfl; exact rfl; exact rfl; exact rfl; exact rfl; intro _ _))
  refine TL_callN rfl rfl rfl (fun w h => c47 (richR R) g ao c hR.rich hg w (h.sl ha)) ?_
  rintro ⟨so, sc, ob⟩ hq
  dsimp only at hq ⊢
  repeat' (first | refine rn ?_ | (apply TL_box; exact rfl; exact rfl; exact rfl; intro _ _) | (apply TL_alloc; exact rfl; intro _ _) | (apply TL_buildSlice; exact rfl; exact rfl; exact rfl; exact rfl; exact rfl; intro _ _))
  exact TQ_ret1 Try.results52 (RV.tmp rfl) (fun w' hs => ⟨rfl, hs.below⟩)

/-- What date.Goats tells. -/
def goatsP (R : Rd) : Sp × Int :=
  if ¬ OkRd R then ((0, 0), 83) else
  let e := searchR (starvesR R) 1001 0 1001
  let f := searchR (fun n => decide ((runAll R n).2.2 ≠ 85)) e.toNat 0 e
  if f = e then ((0, 0), 6) else ((f, e - 1), 0)
theorem searchR_range (so : Int → Bool) : ∀ (n : Nat) (lo hi : Int), lo ≤ hi → lo ≤ searchR so n lo hi ∧ searchR so n lo hi ≤ hi := by
  intro n
  induction n with
  | zero => intro lo hi h; exact ⟨Int.le_refl _, h⟩
  | succ n ih =>
    intro lo hi h
    rw [searchR]
    split
    · split
      · have := ih lo ((lo + hi) / 2) (by omega); omega
      · have := ih ((lo + hi) / 2 + 1) hi (by omega); omega
    · omega

theorem c17 (R : Rd) (ao : Option Addr) (c : Nat) (hl : R.seas.length ≤ 4611686018427387904) (w : World) (ha : Sl w 3 encSn ao R.seas) :
    Calls Try.prog 17 #[.agg (encRd R ao c).toArray] w (RetV w (.tuple #[.agg (encSp (goatsP R).1).toArray, .int .i64 (goatsP R).2])) := by
  refine enter (args := [.agg (encRd R ao c).toArray]) Try.func17 rfl Try.ntmps17 rfl (SH.refl _) ?_
  repeat' (first | refine rn ?_ | (apply TL_box; exact rfl; exact rfl; exact rfl; intro _ _) | (apply TL_alloc; exact rfl; intro _ _) | (apply TL_buildSlice; exact rfl; exact rfl; exact rfl; exact rfl; exact rfl; intro _ _))
  rename_i b1 _ b2 _
  refine TL_callV rfl rfl rfl (fun w h => c45 R ao c hl w (h.sl ha)) ?_
  repeat' (first | refine rn ?_ | (apply TL_box; exact rfl; exact rfl; exact rfl; intro _ _) | (apply TL_alloc; exact rfl; intro _ _) | (apply TL_buildSlice; exact rfl; exact rfl; exact rfl; exact rfl; exact rfl; intro _ _))
  refine TC_cond_dec rfl (fun h1 => ?_) (fun h1 => ?_)
  · repeat' (first | refine rn ?_ | (apply TL_box; exact rfl; exact rfl; exact rfl; intro _ _) | (apply TL_alloc; exact rfl; intro _ _) | (apply TL_buildSlice; exact rfl; exact rfl; exact rfl; exact rfl; exact rfl; intro _ _))
    have e : goatsP R = ((0, 0), 83) := by unfold goatsP; rw [if_pos h1]
    rw [e]
    exact TQ_ret2 Try.results17 (RV.celln rfl mm (by rfl)) (RV.tmp rfl) (fun w' hs => ⟨rfl, hs.below⟩)
  have hR := Classical.not_not.1 h1
  have h51 : ∀ (n : Int), 0 ≤ n → n ≤ 1000 → ∀ w', SH w.heap.size w w' [(b2, .cells [.int .i64 0, .int .i64 0] 23), (b1, .cells (encRd R ao c) 26)] → Calls Try.prog 51 #[.int .i64 n, .pointer (some ⟨b1, 0, none⟩)] w' (RetP w.heap.size w (fun _ : Unit => .bool (starvesR R n)) (fun _ => [(b2, .cells [.int .i64 0, .int .i64 0] 23), (b1, .cells (encRd R ao c) 26)]) (fun _ => True)) := by
    intro n h0 hn w' hs
    refine enter (args := [.int .i64 n, .pointer (some ⟨b1, 0, none⟩)]) Try.func51 rfl Try.ntmps51 rfl hs ?_
    repeat' (first | refine rn ?_ | (apply TL_box; exact rfl; exact rfl; exact rfl; intro _ _) | (apply TL_alloc; exact rfl; intro _ _) | (apply TL_buildSlice; exact rfl; exact rfl; exact rfl; exact rfl; exact rfl; intro _ _))
    refine TL_callV rfl rfl rfl (fun w h => c52 R n ao c hR ⟨h0, hn⟩ w (h.sl ha)) ?_
    repeat' (first | refine rn ?_ | (apply TL_box; exact rfl; exact rfl; exact rfl; intro _ _) | (apply TL_alloc; exact rfl; intro _ _) | (apply TL_buildSlice; exact rfl; exact rfl; exact rfl; exact rfl; exact rfl; intro _ _))
    exact TQ_ret1 Try.results51 (RV.tmp rfl) (fun w' hs => ⟨(), trivial, rfl, hs⟩)
  have h53 : ∀ (n : Int), 0 ≤ n → n ≤ 1000 → ∀ w', SH w.heap.size w w' [(b2, .cells [.int .i64 0, .int .i64 0] 23), (b1, .cells (encRd R ao c) 26)] → Calls Try.prog 53 #[.int .i64 n, .pointer (some ⟨b1, 0, none⟩)] w' (RetP w.heap.size w (fun _ : Unit => .bool (decide ((runAll R n).2.2 ≠ 85))) (fun _ => [(b2, .cells [.int .i64 0, .int .i64 0] 23), (b1, .cells (encRd R ao c) 26)]) (fun _ => True)) := by
    intro n h0 hn w' hs
    refine enter (args := [.int .i64 n, .pointer (some ⟨b1, 0, none⟩)]) Try.func53 rfl Try.ntmps53 rfl hs ?_
    repeat' (first | refine rn ?_ | (apply TL_box; exact rfl; exact rfl; exact rfl; intro _ _) | (apply TL_alloc; exact rfl; intro _ _) | (apply TL_buildSlice; exact rfl; exact rfl; exact rfl; exact rfl; exact rfl; intro _ _))
    refine TL_callN rfl rfl rfl (fun w h => c47 R n ao c hR.run ⟨h0, hn⟩ w (h.sl ha)) ?_
    rintro ⟨so, sc, ob⟩ hq
    dsimp only at hq ⊢
    repeat' (first | refine rn ?_ | (apply TL_box; exact rfl; exact rfl; exact rfl; intro _ _) | (apply TL_alloc; exact rfl; intro _ _) | (apply TL_buildSlice; exact rfl; exact rfl; exact rfl; exact rfl; exact rfl; intro _ _))
    exact TQ_ret1 Try.results53 (RV.tmp rfl) (fun w' hs => ⟨(), trivial, rfl, hs.sub (List.sublist_append_right _ _)⟩)
  repeat' (first | refine rn ?_ | (apply TL_box; exact rfl; exact rfl; exact rfl; intro _ _) | (apply TL_alloc; exact rfl; intro _ _) | (apply TL_buildSlice; exact rfl; exact rfl; exact rfl; exact rfl; exact rfl; intro _ _))
  refine TL_call rfl rfl rfl _ _ _ (fun w' hs => c50 [(b2, .cells [.int .i64 0, .int .i64 0] 23), (b1, .cells (encRd R ao c) 26)] (starvesR R) 51 [.pointer (some ⟨b1, 0, none⟩)] 0 1001 (by omega) (by omega) (by omega) h51 w' hs) (fun _ _ => ?_)
  have hr := searchR_range (starvesR R) 1001 0 1001 (by omega)
  have hgp : goatsP R = if searchR (fun n => decide ((runAll R n).2.2 ≠ 85)) (searchR (starvesR R) 1001 0 1001).toNat 0 (searchR (starvesR R) 1001 0 1001) = searchR (starvesR R) 1001 0 1001 then ((0, 0), 6) else ((searchR (fun n => decide ((runAll R n).2.2 ≠ 85)) (searchR (starvesR R) 1001 0 1001).toNat 0 (searchR (starvesR R) 1001 0 1001), searchR (starvesR R) 1001 0 1001 - 1), 0) := by
    unfold goatsP; rw [if_neg h1]
  rw [show ((1001 : Int) - 0).toNat = 1001 from rfl]
  generalize searchR (starvesR R) 1001 0 1001 = e at hr hgp ⊢
  repeat' (first | refine rn ?_ | (apply TL_box; exact rfl; exact rfl; exact rfl; intro _ _) | (apply TL_alloc; exact rfl; intro _ _) | (apply TL_buildSlice; exact rfl; exact rfl; exact rfl; exact rfl; exact rfl; intro _ _))
  refine TL_call rfl rfl rfl _ _ _ (fun w' hs => c50 [(b2, .cells [.int .i64 0, .int .i64 0] 23), (b1, .cells (encRd R ao c) 26)] (fun n => decide ((runAll R n).2.2 ≠ 85)) 53 [.pointer (some ⟨b1, 0, none⟩)] 0 e (by omega) (by omega) (by omega) h53 w' hs) (fun _ _ => ?_)
  rw [Int.sub_zero]
  have hr2 := searchR_range (fun n => decide ((runAll R n).2.2 ≠ 85)) e.toNat 0 e (by omega)
  generalize searchR (fun n => decide ((runAll R n).2.2 ≠ 85)) e.toNat 0 e = f at hgp hr2 ⊢
  repeat' (first | refine rn ?_ | (apply TL_box; exact rfl; exact rfl; exact rfl; intro _ _) | (apply TL_alloc; exact rfl; intro _ _) | (apply TL_buildSlice; exact rfl; exact rfl; exact rfl; exact rfl; exact rfl; intro _ _))
  refine TC_cond_dec rfl (fun h2 => ?_) (fun h2 => ?_)
  · rw [if_pos h2] at hgp
    rw [hgp]
    repeat' (first | refine rn ?_ | (apply TL_box; exact rfl; exact rfl; exact rfl; intro _ _) | (apply TL_alloc; exact rfl; intro _ _) | (apply TL_buildSlice; exact rfl; exact rfl; exact rfl; exact rfl; exact rfl; intro _ _))
    exact TQ_ret2 Try.results17 (RV.celln rfl mm (by rfl)) (RV.tmp rfl) (fun w' hs => ⟨rfl, hs.below⟩)
  · rw [if_neg h2] at hgp
    rw [hgp]
    repeat' (first | refine rn ?_ | (apply TL_box; exact rfl; exact rfl; exact rfl; intro _ _) | (apply TL_alloc; exact rfl; intro _ _) | (apply TL_buildSlice; exact rfl; exact rfl; exact rfl; exact rfl; exact rfl; intro _ _))
    exact TQ_ret2 Try.results17 (RV.celln rfl mm (by rfl)) (RV.tmp rfl) (fun w' hs => ⟨rfl, hs.below⟩)
end Go.Proofs.Ytccgplomnjpniaa
