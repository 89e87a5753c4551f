/- Proved here: for every clock, day, changes of a night, choices and minute the law TopWatch returns true, and its arguments read behind the call as they read before; and its card: the one listed variable holds what the program's text lays. It has no conditions. -/
import Derived.Test.YtkpkebpofpcmaaaGreatDoorW1
import Derived.Test.YtkpkebpofpcmaaaGreatDoorRT0
import Derived.Test.YtkpkebpofpcmaaaGreatDoorRows
import Derived.Test.YtkpkebpofpcmaaaGreatDoorTie
import Derived.Test.YtkpkebpofpcmaaaGreatDoorCards
import Derived.WalkKit
import Derived.ProofKit
import Derived.LaidMore
import Derived.OpenShut
import Derived.ShutString
import Derived.ChangeOld
import Derived.Below
import Derived.SevenTiedAt
import Derived.Stop.Joined
namespace Go.Proofs.YtkpkebpofpcmaaaGreatDoor.topWatch
open Go Go.ChangeShapes Go.WideShapes Go.ChangeAt Go.RowKit Go.Eng
set_option linter.unusedVariables false

theorem door_met (os : Os) (args : Array Value) : laidMetH Tryz.prog Rows.topWatchRow.laid ((World.doorLaid Tryz.prog 400 os).forCall (fun _ _ => 0) ⟨#[], args, []⟩).memory :=
  laidMetH_of_parts3 (fuel := 8) (laidMet_of_run' 8 (by kernel_rfl) (by kernel_rfl)) (by kernel_rfl) (by kernel_rfl)

set_option maxRecDepth 100000 in
theorem lifted (os : Os) (started : os.Started) (H : Type) (enc : TypeId × Value → H) :
    ReturnsInHanded {} Tryz.checked os 3 .any (fun w args => (Rows.topWatchSpec.pre enc Tryz.prog Tryz.f3 [] false w args ∧ laidMetH Tryz.prog Rows.topWatchRow.laid w) ∧ sizedMet enc Tryz.prog Tryz.f3 (OpenSpec.ofChange Rows.topWatchSpec) false w args)
      (Rows.topWatchSpec.post enc Tryz.prog Tryz.f3 false true false false) := by
  refine returnsInHanded_of_change_and (C := Tryz.checked) (X := fun w _ => laidMetH Tryz.prog Rows.topWatchRow.laid w) (fun _ _ _ hh h => h.of_heap hh) own started (by kernel_rfl) Tryz.func3
    (ChangeSpec.witness_shaped (enc := enc) (C := Tryz.checked) (os := os) (X := fun w _ => laidMetH Tryz.prog Rows.topWatchRow.laid w) false (World.doorLaid Tryz.prog 400 os) #[.agg #[.slice none 0 0, .slice none 0 0, .int .i64 0, .int .i64 0, .int .i64 0, .int .i64 0], .int .i64 0, .slice none 0 0, .slice none 0 0, .int .u16 0] 8 rfl (World.shaped_of_RefB (by kernel_rfl) (by kernel_rfl)) (by kernel_rfl) (by kernel_rfl) (by kernel_rfl) (door_met os _)) ?_
  intro W base args ds gs before hval0 hW _ _ hL _
  have hnv : Nv W := nv_of_laid hL
  have hval : ∀ (j : Nat) t v, Tryz.f3.params[j]? = some t → args[j]? = some v → Value.okWide Tryz.prog W .any base t v := hval0
  have hW' := hW
  obtain ⟨p, q, hA0, hV, rfl, hfz, hnd⟩ := hW
  have hA : DataW.TrodAll enc Tryz.prog W 0 (fun _ => true) true Tryz.f3.params.toList args.toList ds p := hA0
  rw [Tryz.params3] at hA hval
  obtain ⟨v0, vs0, d0, ds0, p0, q0, hargs, rfl, rfl, h0, r0⟩ := trodAll_cons hA
  obtain ⟨v1, vs1, d1, ds1, p1, q1, rfl, rfl, rfl, h1, r1⟩ := trodAll_cons r0
  obtain ⟨v2, vs2, d2, ds2, p2, q2, rfl, rfl, rfl, h2, r2⟩ := trodAll_cons r1
  obtain ⟨v3, vs3, d3, ds3, p3, q3, rfl, rfl, rfl, h3, r3⟩ := trodAll_cons r2
  obtain ⟨v4, vs4, d4, ds4, p4, q4, rfl, rfl, rfl, h4, r4⟩ := trodAll_cons r3
  obtain ⟨rfl, rfl, rfl⟩ := trodAll_nil r4
  obtain rfl : args = #[v0, v1, v2, v3, v4] := by cases args; simp_all
  obtain ⟨rfl, rfl⟩ := trodVars_none hV
  have k0 := h0
  have lt0 : ∀ x ∈ p0, x.block < W.heap.size := by obtain ⟨m, hm⟩ := k0; exact DataW.trod_lt m _ _ _ hm
  obtain ⟨cs0, rfl, hsz0⟩ := okWide_struct Tryz.underlying27 (hval 0 27 v0 rfl rfl)
  obtain ⟨K, hcs0, km, ks⟩ : ∃ k : Ck, cs0.toList = encCk k ∧ Sl W 2 encSp k.mao k.marks ∧ Sl W 4 encSt k.sao k.stars := by
    obtain ⟨m, hm⟩ := h0
    exact open27 hm
  obtain rfl : cs0 = (encCk K).toArray := by rw [← hcs0]
  have k1 := h1
  have lt1 : ∀ x ∈ p1, x.block < W.heap.size := by obtain ⟨m, hm⟩ := k1; exact DataW.trod_lt m _ _ _ hm
  obtain ⟨a1, rfl⟩ := okWide_int Tryz.underlying3 (hval 1 3 v1 rfl rfl)
  have k2 := h2
  have lt2 : ∀ x ∈ p2, x.block < W.heap.size := by obtain ⟨m, hm⟩ := k2; exact DataW.trod_lt m _ _ _ hm
  obtain ⟨so2, sl2, sc2, rfl⟩ := okWide_slice Tryz.underlying28 (hval 2 28 v2 rfl rfl)
  obtain ⟨gl2, gc2, gn2, l2, rfl, hs2, hq2⟩ : sl2 ≤ sc2 ∧ sc2 ≤ maxLen ∧ (so2 = none → sc2 = 0) ∧ ∃ l : List Cg, l.length = sl2 ∧ Sl W 3 encCg so2 l ∧ ∀ u ∈ l, (fun c : Cg => Sl W 5 encTg c.ao c.told) u := by
    obtain ⟨m, hm⟩ := h2
    exact trod_sliceP (enc := encCg) (QQ := fun c : Cg => Sl W 5 encTg c.ao c.told) c67of (fun _ => rfl) (fun h => open67 h) (by omega) Tryz.underlying28 hm
  have ln2 : l2.length ≤ 9223372036854775807 := by simp only [maxLen] at gc2; omega
  have k3 := h3
  have lt3 : ∀ x ∈ p3, x.block < W.heap.size := by obtain ⟨m, hm⟩ := k3; exact DataW.trod_lt m _ _ _ hm
  obtain ⟨so3, sl3, sc3, rfl⟩ := okWide_slice Tryz.underlying29 (hval 3 29 v3 rfl rfl)
  obtain ⟨gl3, gc3, gn3, l3, rfl, hs3, hq3⟩ : sl3 ≤ sc3 ∧ sc3 ≤ maxLen ∧ (so3 = none → sc3 = 0) ∧ ∃ l : List Int, l.length = sl3 ∧ Sl W 1 encU so3 l ∧ ∀ u ∈ l, (fun n : Int => 0 ≤ n ∧ n ≤ 4294967295) u := by
    obtain ⟨m, hm⟩ := h3
    exact trod_sliceP (enc := encU) (QQ := fun n : Int => 0 ≤ n ∧ n ≤ 4294967295) c46of (fun _ => rfl) (fun h => open46 h) (by omega) Tryz.underlying29 hm
  have ln3 : l3.length ≤ 9223372036854775807 := by simp only [maxLen] at gc3; omega
  have k4 := h4
  have lt4 : ∀ x ∈ p4, x.block < W.heap.size := by obtain ⟨m, hm⟩ := k4; exact DataW.trod_lt m _ _ _ hm
  obtain ⟨a4, rfl⟩ := okWide_int Tryz.underlying30 (hval 4 30 v4 rfl rfl)
  have w4 : (Lit.int .u16 a4).wf = true := by
    obtain ⟨m, hm⟩ := h4
    obtain ⟨n, e, hw⟩ := trod_int Tryz.underlying30 hm
    have e : [Value.int .u16 a4] = [Value.int .u16 n] := e
    cases e; exact hw
  clear hA0 hval0
  refine (c3 K a1 l2 so2 sc2 l3 so3 sc3 a4 W km ks ⟨hs2, hq2⟩ hnv hs3 hq3 (wf_u16 w4)).mono fun e W' ⟨he, bel⟩ => ?_
  subst he
  exact ⟨_, rfl, _, _, _, [], _, [], hW', trodAll_mk1 (shut_bool Tryz.underlying4 _), (trodAll_cons_mk (Below.trod laidOut (by kernel_rfl) (of_decide_eq_true (by kernel_rfl)) k0 bel lt0) (trodAll_cons_mk (Below.trod laidOut (by kernel_rfl) (of_decide_eq_true (by kernel_rfl)) k1 bel lt1) (trodAll_cons_mk (Below.trod laidOut (by kernel_rfl) (of_decide_eq_true (by kernel_rfl)) k2 bel lt2) (trodAll_cons_mk (Below.trod laidOut (by kernel_rfl) (of_decide_eq_true (by kernel_rfl)) k3 bel lt3) (trodAll_cons_mk (Below.trod laidOut (by kernel_rfl) (of_decide_eq_true (by kernel_rfl)) k4 bel lt4) trodAll_mk0))))), rfl, bel.frame _, fun h => by cases h⟩

theorem over : Rows.topWatchRow.holds Tryz.pinned (OpenSpec.ofChange Rows.topWatchSpec) :=
  OpenClaim.holds_of_wide 3 Tryz.f3 rfl rfl rfl rfl rfl rfl rfl ⟨rfl, rfl, rfl, rfl, rfl⟩ rfl rfl rfl rfl rfl (by kernel_rfl) Tryz.func3 (by kernel_rfl)
    (of_decide_eq_true (by kernel_rfl)) (by unfold Func.isWrapper; first | (rw [if_pos (by decide +kernel)]; kernel_rfl) | (rw [if_neg (by decide +kernel)]; exact ⟨rfl, rfl⟩))
    (fun os started H enc _ => lifted os started H enc)

/-- The statement TopWatch, its card. -/
theorem proved : Rows.TopWatchCardSaid :=
  Claim7.holds_tied_plain_at .later [] [.data] true (true, "606ca307c1b42b2983f006aecca6a8bdae1d51c889ed0397e2683a002f97e551") true
    over (fun _ h => by cases h) (by kernel_rfl) (fun _ h => by cases h) topWatch_row_tie rfl ⟨rfl, rfl⟩ (by kernel_rfl) rfl
    (fun f fn hf hfn => by
      obtain rfl : f = 3 := Option.some.inj ((show Tryz.prog.funcNamed "aflaj/aflajtop.TopWatch" = some 3 by kernel_rfl).symm.trans hf) |>.symm
      obtain rfl : fn = Tryz.f3 := (Option.some.inj (Tryz.func3.symm.trans hfn)).symm
      exact ⟨by kernel_rfl, fun j t ht => by
        rw [Tryz.params3] at ht
        rcases j with _ | j
        · have h3 : t = 27 := by simpa using ht.symm
          subst h3
          exact (show Tryz.prog.wantsStandIn 27 = false by kernel_rfl)
        rcases j with _ | j
        · have h3 : t = 3 := by simpa using ht.symm
          subst h3
          exact (show Tryz.prog.wantsStandIn 3 = false by kernel_rfl)
        rcases j with _ | j
        · have h3 : t = 28 := by simpa using ht.symm
          subst h3
          exact (show Tryz.prog.wantsStandIn 28 = false by kernel_rfl)
        rcases j with _ | j
        · have h3 : t = 29 := by simpa using ht.symm
          subst h3
          exact (show Tryz.prog.wantsStandIn 29 = false by kernel_rfl)
        rcases j with _ | j
        · have h3 : t = 30 := by simpa using ht.symm
          subst h3
          exact (show Tryz.prog.wantsStandIn 30 = false by kernel_rfl)
        simp at ht⟩)
    (by kernel_rfl)
end Go.Proofs.YtkpkebpofpcmaaaGreatDoor.topWatch
