/- Proved here: for every net, flow, roll, deeds, day and choices the law TopShares returns true, and its arguments read behind the call as they read before; and its card: the one listed variable holds what the program's text lays. It has no conditions. -/
import Derived.Test.YtkpkebpofpcmaaaGreatDoorS15
import Derived.Test.YtkpkebpofpcmaaaGreatDoorRT5
import Derived.Test.YtkpkebpofpcmaaaGreatDoorRows
import Derived.Test.YtkpkebpofpcmaaaGreatDoorTie
import Derived.Test.YtkpkebpofpcmaaaGreatDoorCards
import Derived.WalkKit
import Derived.ProofKit
import Derived.LaidMore
import Derived.OpenShut
import Derived.ShutString
import Derived.ChangeOld
import Derived.Below
import Derived.SevenTiedAt
import Derived.Stop.Joined
namespace Go.Proofs.YtkpkebpofpcmaaaGreatDoor.topShares
open Go Go.ChangeShapes Go.WideShapes Go.ChangeAt Go.RowKit Go.Eng
set_option linter.unusedVariables false

theorem door_met (os : Os) (args : Array Value) : laidMetH Tryz.prog Rows.topSharesRow.laid ((World.doorLaid Tryz.prog 400 os).forCall (fun _ _ => 0) ⟨#[], args, []⟩).memory :=
  laidMetH_of_parts3 (fuel := 8) (laidMet_of_run' 8 (by kernel_rfl) (by kernel_rfl)) (by kernel_rfl) (by kernel_rfl)

set_option maxRecDepth 100000 in
theorem lifted (os : Os) (started : os.Started) (H : Type) (enc : TypeId × Value → H) :
    ReturnsInHanded {} Tryz.checked os 6 .any (fun w args => (Rows.topSharesSpec.pre enc Tryz.prog Tryz.f6 [] false w args ∧ laidMetH Tryz.prog Rows.topSharesRow.laid w) ∧ sizedMet enc Tryz.prog Tryz.f6 (OpenSpec.ofChange Rows.topSharesSpec) false w args)
      (Rows.topSharesSpec.post enc Tryz.prog Tryz.f6 false true false false) := by
  refine returnsInHanded_of_change_and (C := Tryz.checked) (X := fun w _ => laidMetH Tryz.prog Rows.topSharesRow.laid w) (fun _ _ _ hh h => h.of_heap hh) own started (by kernel_rfl) Tryz.func6
    (ChangeSpec.witness_shaped (enc := enc) (C := Tryz.checked) (os := os) (X := fun w _ => laidMetH Tryz.prog Rows.topSharesRow.laid w) false (World.doorLaid Tryz.prog 400 os) #[.agg #[.slice none 0 0, .slice none 0 0, .int .i64 0, .int .i64 0], .agg #[.int .i64 0, .int .i64 0], .agg #[.int .i64 0, .slice none 0 0], .slice none 0 0, .int .i64 0, .slice none 0 0] 8 rfl (World.shaped_of_RefB (by kernel_rfl) (by kernel_rfl)) (by kernel_rfl) (by kernel_rfl) (by kernel_rfl) (door_met os _)) ?_
  intro W base args ds gs before hval0 hW _ _ hL _
  have hnv : Nv W := nv_of_laid hL
  have hval : ∀ (j : Nat) t v, Tryz.f6.params[j]? = some t → args[j]? = some v → Value.okWide Tryz.prog W .any base t v := hval0
  have hW' := hW
  obtain ⟨p, q, hA0, hV, rfl, hfz, hnd⟩ := hW
  have hA : DataW.TrodAll enc Tryz.prog W 0 (fun _ => true) true Tryz.f6.params.toList args.toList ds p := hA0
  rw [Tryz.params6] at hA hval
  obtain ⟨v0, vs0, d0, ds0, p0, q0, hargs, rfl, rfl, h0, r0⟩ := trodAll_cons hA
  obtain ⟨v1, vs1, d1, ds1, p1, q1, rfl, rfl, rfl, h1, r1⟩ := trodAll_cons r0
  obtain ⟨v2, vs2, d2, ds2, p2, q2, rfl, rfl, rfl, h2, r2⟩ := trodAll_cons r1
  obtain ⟨v3, vs3, d3, ds3, p3, q3, rfl, rfl, rfl, h3, r3⟩ := trodAll_cons r2
  obtain ⟨v4, vs4, d4, ds4, p4, q4, rfl, rfl, rfl, h4, r4⟩ := trodAll_cons r3
  obtain ⟨v5, vs5, d5, ds5, p5, q5, rfl, rfl, rfl, h5, r5⟩ := trodAll_cons r4
  obtain ⟨rfl, rfl, rfl⟩ := trodAll_nil r5
  obtain rfl : args = #[v0, v1, v2, v3, v4, v5] := by cases args; simp_all
  obtain ⟨rfl, rfl⟩ := trodVars_none hV
  have k0 := h0
  have lt0 : ∀ x ∈ p0, x.block < W.heap.size := by obtain ⟨m, hm⟩ := k0; exact DataW.trod_lt m _ _ _ hm
  obtain ⟨cs0, rfl, hsz0⟩ := okWide_struct Tryz.underlying57 (hval 0 57 v0 rfl rfl)
  obtain ⟨NN, hcs0, nc, nf⟩ : ∃ n : Nt, cs0.toList = encNt n ∧ Sl W 5 encCn n.cao n.canals ∧ Sl W 1 encI n.fao n.fields := by
    obtain ⟨m, hm⟩ := h0
    exact open57 hm
  obtain rfl : cs0 = (encNt NN).toArray := by rw [← hcs0]
  have k1 := h1
  have lt1 : ∀ x ∈ p1, x.block < W.heap.size := by obtain ⟨m, hm⟩ := k1; exact DataW.trod_lt m _ _ _ hm
  obtain ⟨cs1, rfl, hsz1⟩ := okWide_struct Tryz.underlying25 (hval 1 25 v1 rfl rfl)
  obtain ⟨S1, hcs1⟩ : ∃ s : Sp, cs1.toList = encSp s := by
    obtain ⟨m, hm⟩ := h1
    exact rd25.rd hm
  obtain rfl : cs1 = (encSp S1).toArray := by rw [← hcs1]
  have k2 := h2
  have lt2 : ∀ x ∈ p2, x.block < W.heap.size := by obtain ⟨m, hm⟩ := k2; exact DataW.trod_lt m _ _ _ hm
  obtain ⟨cs2, rfl, hsz2⟩ := okWide_struct Tryz.underlying43 (hval 2 43 v2 rfl rfl)
  obtain ⟨R, hcs2, rh, rn⟩ : ∃ r : Ro, cs2.toList = encRo r ∧ Sl W 3 encHo r.ao r.holds ∧ r.holds.length ≤ 9223372036854775807 := by
    obtain ⟨m, hm⟩ := h2
    exact open43 hm
  obtain rfl : cs2 = (encRo R).toArray := by rw [← hcs2]
  have k3 := h3
  have lt3 : ∀ x ∈ p3, x.block < W.heap.size := by obtain ⟨m, hm⟩ := k3; exact DataW.trod_lt m _ _ _ hm
  obtain ⟨so3, sl3, sc3, rfl⟩ := okWide_slice Tryz.underlying44 (hval 3 44 v3 rfl rfl)
  obtain ⟨gl3, gc3, gn3, l3, rfl, hs3, hq3⟩ : sl3 ≤ sc3 ∧ sc3 ≤ maxLen ∧ (so3 = none → sc3 = 0) ∧ ∃ l : List Dd, l.length = sl3 ∧ Sl W 9 encDd so3 l ∧ ∀ u ∈ l, (fun d : Dd => Sl W 2 encSp d.ao d.heirs ∧ d.heirs.length ≤ 9223372036854775807) u := by
    obtain ⟨m, hm⟩ := h3
    exact trod_sliceP (enc := encDd) (QQ := fun d : Dd => Sl W 2 encSp d.ao d.heirs ∧ d.heirs.length ≤ 9223372036854775807) c50of (fun _ => rfl) (fun h => open50 h) (by omega) Tryz.underlying44 hm
  have ln3 : l3.length ≤ 9223372036854775807 := by simp only [maxLen] at gc3; omega
  have k4 := h4
  have lt4 : ∀ x ∈ p4, x.block < W.heap.size := by obtain ⟨m, hm⟩ := k4; exact DataW.trod_lt m _ _ _ hm
  obtain ⟨a4, rfl⟩ := okWide_int Tryz.underlying3 (hval 4 3 v4 rfl rfl)
  have k5 := h5
  have lt5 : ∀ x ∈ p5, x.block < W.heap.size := by obtain ⟨m, hm⟩ := k5; exact DataW.trod_lt m _ _ _ hm
  obtain ⟨so5, sl5, sc5, rfl⟩ := okWide_slice Tryz.underlying29 (hval 5 29 v5 rfl rfl)
  obtain ⟨gl5, gc5, gn5, l5, rfl, hs5, hq5⟩ : sl5 ≤ sc5 ∧ sc5 ≤ maxLen ∧ (so5 = none → sc5 = 0) ∧ ∃ l : List Int, l.length = sl5 ∧ Sl W 1 encU so5 l ∧ ∀ u ∈ l, (fun n : Int => 0 ≤ n ∧ n ≤ 4294967295) u := by
    obtain ⟨m, hm⟩ := h5
    exact trod_sliceP (enc := encU) (QQ := fun n : Int => 0 ≤ n ∧ n ≤ 4294967295) c46of (fun _ => rfl) (fun h => open46 h) (by omega) Tryz.underlying29 hm
  have ln5 : l5.length ≤ 9223372036854775807 := by simp only [maxLen] at gc5; omega
  clear hA0 hval0
  refine (c6 NN S1 R l3 so3 sc3 a4 l5 so5 sc5 hq5 W nc nf rh hs3 (fun x hx => (hq3 x hx).1) hs5 hnv).mono fun e W' ⟨he, bel⟩ => ?_
  subst he
  exact ⟨_, rfl, _, _, _, [], _, [], hW', trodAll_mk1 (shut_bool Tryz.underlying4 _), (trodAll_cons_mk (Below.trod laidOut (by kernel_rfl) (of_decide_eq_true (by kernel_rfl)) k0 bel lt0) (trodAll_cons_mk (Below.trod laidOut (by kernel_rfl) (of_decide_eq_true (by kernel_rfl)) k1 bel lt1) (trodAll_cons_mk (Below.trod laidOut (by kernel_rfl) (of_decide_eq_true (by kernel_rfl)) k2 bel lt2) (trodAll_cons_mk (Below.trod laidOut (by kernel_rfl) (of_decide_eq_true (by kernel_rfl)) k3 bel lt3) (trodAll_cons_mk (Below.trod laidOut (by kernel_rfl) (of_decide_eq_true (by kernel_rfl)) k4 bel lt4) (trodAll_cons_mk (Below.trod laidOut (by kernel_rfl) (of_decide_eq_true (by kernel_rfl)) k5 bel lt5) trodAll_mk0)))))), rfl, bel.frame _, fun h => by cases h⟩

theorem over : Rows.topSharesRow.holds Tryz.pinned (OpenSpec.ofChange Rows.topSharesSpec) :=
  OpenClaim.holds_of_wide 6 Tryz.f6 rfl rfl rfl rfl rfl rfl rfl ⟨rfl, rfl, rfl, rfl, rfl⟩ rfl rfl rfl rfl rfl (by kernel_rfl) Tryz.func6 (by kernel_rfl)
    (of_decide_eq_true (by kernel_rfl)) (by unfold Func.isWrapper; first | (rw [if_pos (by decide +kernel)]; kernel_rfl) | (rw [if_neg (by decide +kernel)]; exact ⟨rfl, rfl⟩))
    (fun os started H enc _ => lifted os started H enc)

/-- The statement TopShares, its card. -/
theorem proved : Rows.TopSharesCardSaid :=
  Claim7.holds_tied_plain_at .later [] [.data] true (true, "606ca307c1b42b2983f006aecca6a8bdae1d51c889ed0397e2683a002f97e551") true
    over (fun _ h => by cases h) (by kernel_rfl) (fun _ h => by cases h) topShares_row_tie rfl ⟨rfl, rfl⟩ (by kernel_rfl) rfl
    (fun f fn hf hfn => by
      obtain rfl : f = 6 := Option.some.inj ((show Tryz.prog.funcNamed "aflaj/aflajtop.TopShares" = some 6 by kernel_rfl).symm.trans hf) |>.symm
      obtain rfl : fn = Tryz.f6 := (Option.some.inj (Tryz.func6.symm.trans hfn)).symm
      exact ⟨by kernel_rfl, fun j t ht => by
        rw [Tryz.params6] at ht
        rcases j with _ | j
        · have h3 : t = 57 := by simpa using ht.symm
          subst h3
          exact (show Tryz.prog.wantsStandIn 57 = false by kernel_rfl)
        rcases j with _ | j
        · have h3 : t = 25 := by simpa using ht.symm
          subst h3
          exact (show Tryz.prog.wantsStandIn 25 = false by kernel_rfl)
        rcases j with _ | j
        · have h3 : t = 43 := by simpa using ht.symm
          subst h3
          exact (show Tryz.prog.wantsStandIn 43 = false by kernel_rfl)
        rcases j with _ | j
        · have h3 : t = 44 := by simpa using ht.symm
          subst h3
          exact (show Tryz.prog.wantsStandIn 44 = false by kernel_rfl)
        rcases j with _ | j
        · have h3 : t = 3 := by simpa using ht.symm
          subst h3
          exact (show Tryz.prog.wantsStandIn 3 = false by kernel_rfl)
        rcases j with _ | j
        · have h3 : t = 29 := by simpa using ht.symm
          subst h3
          exact (show Tryz.prog.wantsStandIn 29 = false by kernel_rfl)
        simp at ht⟩)
    (by kernel_rfl)
end Go.Proofs.YtkpkebpofpcmaaaGreatDoor.topShares
