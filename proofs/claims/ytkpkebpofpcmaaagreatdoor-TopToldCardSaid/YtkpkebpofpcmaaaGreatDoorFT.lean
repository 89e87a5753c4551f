/- Proved here: for every clock, day, tellings, rolls, deeds and choice the law TopTold returns true, and its arguments read behind the call as they read before; and its card: the one listed variable holds what the program's text lays. It has no conditions. -/
import Derived.Test.YtkpkebpofpcmaaaGreatDoorS11
import Derived.Test.YtkpkebpofpcmaaaGreatDoorRT0
import Derived.Test.YtkpkebpofpcmaaaGreatDoorRows
import Derived.Test.YtkpkebpofpcmaaaGreatDoorTie
import Derived.Test.YtkpkebpofpcmaaaGreatDoorCards
import Derived.WalkKit
import Derived.ProofKit
import Derived.LaidMore
import Derived.OpenShut
import Derived.ShutString
import Derived.ChangeOld
import Derived.Below
import Derived.SevenTiedAt
import Derived.Stop.Joined
namespace Go.Proofs.YtkpkebpofpcmaaaGreatDoor.topTold
open Go Go.ChangeShapes Go.WideShapes Go.ChangeAt Go.RowKit Go.Eng
set_option linter.unusedVariables false

theorem door_met (os : Os) (args : Array Value) : laidMetH Tryz.prog Rows.topToldRow.laid ((World.doorLaid Tryz.prog 400 os).forCall (fun _ _ => 0) ⟨#[], args, []⟩).memory :=
  laidMetH_of_parts3 (fuel := 8) (laidMet_of_run' 8 (by kernel_rfl) (by kernel_rfl)) (by kernel_rfl) (by kernel_rfl)

set_option maxRecDepth 100000 in
theorem lifted (os : Os) (started : os.Started) (H : Type) (enc : TypeId × Value → H) :
    ReturnsInHanded {} Tryz.checked os 5 .any (fun w args => (Rows.topToldSpec.pre enc Tryz.prog Tryz.f5 [] false w args ∧ laidMetH Tryz.prog Rows.topToldRow.laid w) ∧ sizedMet enc Tryz.prog Tryz.f5 (OpenSpec.ofChange Rows.topToldSpec) false w args)
      (Rows.topToldSpec.post enc Tryz.prog Tryz.f5 false true false false) := by
  refine returnsInHanded_of_change_and (C := Tryz.checked) (X := fun w _ => laidMetH Tryz.prog Rows.topToldRow.laid w) (fun _ _ _ hh h => h.of_heap hh) own started (by kernel_rfl) Tryz.func5
    (ChangeSpec.witness_shaped (enc := enc) (C := Tryz.checked) (os := os) (X := fun w _ => laidMetH Tryz.prog Rows.topToldRow.laid w) false (World.doorLaid Tryz.prog 400 os) #[.agg #[.slice none 0 0, .slice none 0 0, .int .i64 0, .int .i64 0, .int .i64 0, .int .i64 0], .int .i64 0, .slice none 0 0, .agg #[.int .i64 0, .slice none 0 0], .slice none 0 0, .int .u32 0] 8 rfl (World.shaped_of_RefB (by kernel_rfl) (by kernel_rfl)) (by kernel_rfl) (by kernel_rfl) (by kernel_rfl) (door_met os _)) ?_
  intro W base args ds gs before hval0 hW _ _ hL _
  have hnv : Nv W := nv_of_laid hL
  have hval : ∀ (j : Nat) t v, Tryz.f5.params[j]? = some t → args[j]? = some v → Value.okWide Tryz.prog W .any base t v := hval0
  have hW' := hW
  obtain ⟨p, q, hA0, hV, rfl, hfz, hnd⟩ := hW
  have hA : DataW.TrodAll enc Tryz.prog W 0 (fun _ => true) true Tryz.f5.params.toList args.toList ds p := hA0
  rw [Tryz.params5] at hA hval
  obtain ⟨v0, vs0, d0, ds0, p0, q0, hargs, rfl, rfl, h0, r0⟩ := trodAll_cons hA
  obtain ⟨v1, vs1, d1, ds1, p1, q1, rfl, rfl, rfl, h1, r1⟩ := trodAll_cons r0
  obtain ⟨v2, vs2, d2, ds2, p2, q2, rfl, rfl, rfl, h2, r2⟩ := trodAll_cons r1
  obtain ⟨v3, vs3, d3, ds3, p3, q3, rfl, rfl, rfl, h3, r3⟩ := trodAll_cons r2
  obtain ⟨v4, vs4, d4, ds4, p4, q4, rfl, rfl, rfl, h4, r4⟩ := trodAll_cons r3
  obtain ⟨v5, vs5, d5, ds5, p5, q5, rfl, rfl, rfl, h5, r5⟩ := trodAll_cons r4
  obtain ⟨rfl, rfl, rfl⟩ := trodAll_nil r5
  obtain rfl : args = #[v0, v1, v2, v3, v4, v5] := by cases args; simp_all
  obtain ⟨rfl, rfl⟩ := trodVars_none hV
  have k0 := h0
  have lt0 : ∀ x ∈ p0, x.block < W.heap.size := by obtain ⟨m, hm⟩ := k0; exact DataW.trod_lt m _ _ _ hm
  obtain ⟨cs0, rfl, hsz0⟩ := okWide_struct Tryz.underlying27 (hval 0 27 v0 rfl rfl)
  obtain ⟨K, hcs0, km, ks⟩ : ∃ k : Ck, cs0.toList = encCk k ∧ Sl W 2 encSp k.mao k.marks ∧ Sl W 4 encSt k.sao k.stars := by
    obtain ⟨m, hm⟩ := h0
    exact open27 hm
  obtain rfl : cs0 = (encCk K).toArray := by rw [← hcs0]
  have k1 := h1
  have lt1 : ∀ x ∈ p1, x.block < W.heap.size := by obtain ⟨m, hm⟩ := k1; exact DataW.trod_lt m _ _ _ hm
  obtain ⟨a1, rfl⟩ := okWide_int Tryz.underlying3 (hval 1 3 v1 rfl rfl)
  have k2 := h2
  have lt2 : ∀ x ∈ p2, x.block < W.heap.size := by obtain ⟨m, hm⟩ := k2; exact DataW.trod_lt m _ _ _ hm
  obtain ⟨so2, sl2, sc2, rfl⟩ := okWide_slice Tryz.underlying65 (hval 2 65 v2 rfl rfl)
  obtain ⟨gl2, gc2, gn2, l2, rfl, hs2⟩ : sl2 ≤ sc2 ∧ sc2 ≤ maxLen ∧ (so2 = none → sc2 = 0) ∧ ∃ l : List Tg, l.length = sl2 ∧ Sl W 5 encTg so2 l := by
    obtain ⟨m, hm⟩ := h2
    exact trod_slice (enc := encTg) (by omega) Tryz.underlying65 hm
  have ln2 : l2.length ≤ 9223372036854775807 := by simp only [maxLen] at gc2; omega
  have k3 := h3
  have lt3 : ∀ x ∈ p3, x.block < W.heap.size := by obtain ⟨m, hm⟩ := k3; exact DataW.trod_lt m _ _ _ hm
  obtain ⟨cs3, rfl, hsz3⟩ := okWide_struct Tryz.underlying43 (hval 3 43 v3 rfl rfl)
  obtain ⟨R, hcs3, rh, rn⟩ : ∃ r : Ro, cs3.toList = encRo r ∧ Sl W 3 encHo r.ao r.holds ∧ r.holds.length ≤ 9223372036854775807 := by
    obtain ⟨m, hm⟩ := h3
    exact open43 hm
  obtain rfl : cs3 = (encRo R).toArray := by rw [← hcs3]
  have k4 := h4
  have lt4 : ∀ x ∈ p4, x.block < W.heap.size := by obtain ⟨m, hm⟩ := k4; exact DataW.trod_lt m _ _ _ hm
  obtain ⟨so4, sl4, sc4, rfl⟩ := okWide_slice Tryz.underlying44 (hval 4 44 v4 rfl rfl)
  obtain ⟨gl4, gc4, gn4, l4, rfl, hs4, hq4⟩ : sl4 ≤ sc4 ∧ sc4 ≤ maxLen ∧ (so4 = none → sc4 = 0) ∧ ∃ l : List Dd, l.length = sl4 ∧ Sl W 9 encDd so4 l ∧ ∀ u ∈ l, (fun d : Dd => Sl W 2 encSp d.ao d.heirs ∧ d.heirs.length ≤ 9223372036854775807) u := by
    obtain ⟨m, hm⟩ := h4
    exact trod_sliceP (enc := encDd) (QQ := fun d : Dd => Sl W 2 encSp d.ao d.heirs ∧ d.heirs.length ≤ 9223372036854775807) c50of (fun _ => rfl) (fun h => open50 h) (by omega) Tryz.underlying44 hm
  have ln4 : l4.length ≤ 9223372036854775807 := by simp only [maxLen] at gc4; omega
  have k5 := h5
  have lt5 : ∀ x ∈ p5, x.block < W.heap.size := by obtain ⟨m, hm⟩ := k5; exact DataW.trod_lt m _ _ _ hm
  obtain ⟨a5, rfl⟩ := okWide_int Tryz.underlying46 (hval 5 46 v5 rfl rfl)
  have w5 : (Lit.int .u32 a5).wf = true := by
    obtain ⟨m, hm⟩ := h5
    obtain ⟨n, e, hw⟩ := trod_int Tryz.underlying46 hm
    have e : [Value.int .u32 a5] = [Value.int .u32 n] := e
    cases e; exact hw
  clear hA0 hval0
  refine (c5 K a1 l2 so2 sc2 R l4 so4 sc4 a5 (wf_u32 w5) W km ks hs2 rh hs4 (fun x hx => (hq4 x hx).1) hnv).mono fun e W' ⟨he, bel⟩ => ?_
  subst he
  exact ⟨_, rfl, _, _, _, [], _, [], hW', trodAll_mk1 (shut_bool Tryz.underlying4 _), (trodAll_cons_mk (Below.trod laidOut (by kernel_rfl) (of_decide_eq_true (by kernel_rfl)) k0 bel lt0) (trodAll_cons_mk (Below.trod laidOut (by kernel_rfl) (of_decide_eq_true (by kernel_rfl)) k1 bel lt1) (trodAll_cons_mk (Below.trod laidOut (by kernel_rfl) (of_decide_eq_true (by kernel_rfl)) k2 bel lt2) (trodAll_cons_mk (Below.trod laidOut (by kernel_rfl) (of_decide_eq_true (by kernel_rfl)) k3 bel lt3) (trodAll_cons_mk (Below.trod laidOut (by kernel_rfl) (of_decide_eq_true (by kernel_rfl)) k4 bel lt4) (trodAll_cons_mk (Below.trod laidOut (by kernel_rfl) (of_decide_eq_true (by kernel_rfl)) k5 bel lt5) trodAll_mk0)))))), rfl, bel.frame _, fun h => by cases h⟩

theorem over : Rows.topToldRow.holds Tryz.pinned (OpenSpec.ofChange Rows.topToldSpec) :=
  OpenClaim.holds_of_wide 5 Tryz.f5 rfl rfl rfl rfl rfl rfl rfl ⟨rfl, rfl, rfl, rfl, rfl⟩ rfl rfl rfl rfl rfl (by kernel_rfl) Tryz.func5 (by kernel_rfl)
    (of_decide_eq_true (by kernel_rfl)) (by unfold Func.isWrapper; first | (rw [if_pos (by decide +kernel)]; kernel_rfl) | (rw [if_neg (by decide +kernel)]; exact ⟨rfl, rfl⟩))
    (fun os started H enc _ => lifted os started H enc)

/-- The statement TopTold, its card. -/
theorem proved : Rows.TopToldCardSaid :=
  Claim7.holds_tied_plain_at .later [] [.data] true (true, "606ca307c1b42b2983f006aecca6a8bdae1d51c889ed0397e2683a002f97e551") true
    over (fun _ h => by cases h) (by kernel_rfl) (fun _ h => by cases h) topTold_row_tie rfl ⟨rfl, rfl⟩ (by kernel_rfl) rfl
    (fun f fn hf hfn => by
      obtain rfl : f = 5 := Option.some.inj ((show Tryz.prog.funcNamed "aflaj/aflajtop.TopTold" = some 5 by kernel_rfl).symm.trans hf) |>.symm
      obtain rfl : fn = Tryz.f5 := (Option.some.inj (Tryz.func5.symm.trans hfn)).symm
      exact ⟨by kernel_rfl, fun j t ht => by
        rw [Tryz.params5] at ht
        rcases j with _ | j
        · have h3 : t = 27 := by simpa using ht.symm
          subst h3
          exact (show Tryz.prog.wantsStandIn 27 = false by kernel_rfl)
        rcases j with _ | j
        · have h3 : t = 3 := by simpa using ht.symm
          subst h3
          exact (show Tryz.prog.wantsStandIn 3 = false by kernel_rfl)
        rcases j with _ | j
        · have h3 : t = 65 := by simpa using ht.symm
          subst h3
          exact (show Tryz.prog.wantsStandIn 65 = false by kernel_rfl)
        rcases j with _ | j
        · have h3 : t = 43 := by simpa using ht.symm
          subst h3
          exact (show Tryz.prog.wantsStandIn 43 = false by kernel_rfl)
        rcases j with _ | j
        · have h3 : t = 44 := by simpa using ht.symm
          subst h3
          exact (show Tryz.prog.wantsStandIn 44 = false by kernel_rfl)
        rcases j with _ | j
        · have h3 : t = 46 := by simpa using ht.symm
          subst h3
          exact (show Tryz.prog.wantsStandIn 46 = false by kernel_rfl)
        simp at ht⟩)
    (by kernel_rfl)
end Go.Proofs.YtkpkebpofpcmaaaGreatDoor.topTold
