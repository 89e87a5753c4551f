/- Proved here: for every fruit, bunch, cuts and numbers of what is so the law DateTrue returns true, and its arguments read behind the call as they read before. It has no conditions. -/
import Derived.Test.YtccgplomnjpniaaE40
import Derived.Test.YtccgplomnjpniaaR1
import Derived.Test.YtccgplomnjpniaaRows
import Derived.WalkKit
import Derived.ProofKit
import Derived.OpenShut
import Derived.ShutString
import Derived.ChangeOld
import Derived.Below
namespace Go.Proofs.Ytccgplomnjpniaa.dateTrue
open Go.ChangeShapes Go.WideShapes Go.ChangeAt Go.RowKit Go.Eng
set_option linter.unusedVariables false

set_option maxRecDepth 100000 in
theorem lifted (os : Os) (started : os.Started) (H : Type) (enc : TypeId × Value → H) :
    ReturnsInHanded {} Try.checked os 7 .any (Rows.dateTrueSpec.pre6 enc Try.prog Try.f7 Rows.dateTrueRow.domain false) (Rows.dateTrueSpec.post enc Try.prog Try.f7 false true false false) := by
  refine returnsInHanded_of_change (C := Try.checked) own started (by kernel_rfl) Try.func7
    (ChangeSpec.witness6 (enc := enc) (C := Try.checked) false ⟨#[], #[.agg #[.int .i64 0, .int .i64 0, .int .i64 0, .int .i64 0, .int .i64 0, .int .i64 0, .int .i64 0, .int .i64 0, .int .i64 0, .int .i64 0], .agg #[.slice none 0 0, .int .i64 0, .int .i64 0, .bool false], .slice none 0 0, .slice none 0 0], []⟩ 8 (by kernel_rfl) (by kernel_rfl) (by kernel_rfl) (by kernel_rfl)) ?_
  intro W base args ds gs before hval0 hW hcnd _
  have hval : ∀ (j : Nat) t v, Try.f7.params[j]? = some t → args[j]? = some v → Value.okWide Try.prog W .any base t v := hval0
  have hW' := hW
  obtain ⟨p, q, hA0, hV, rfl, hfz, hnd⟩ := hW
  have hA : DataW.TrodAll enc Try.prog W 0 (fun _ => true) true Try.f7.params.toList args.toList ds p := hA0
  rw [Try.params7] at hA hval
  obtain ⟨v0, vs0, d0, ds0, p0, q0, hargs, rfl, rfl, h0, r0⟩ := trodAll_cons hA
  obtain ⟨v1, vs1, d1, ds1, p1, q1, rfl, rfl, rfl, h1, r1⟩ := trodAll_cons r0
  obtain ⟨v2, vs2, d2, ds2, p2, q2, rfl, rfl, rfl, h2, r2⟩ := trodAll_cons r1
  obtain ⟨v3, vs3, d3, ds3, p3, q3, rfl, rfl, rfl, h3, r3⟩ := trodAll_cons r2
  obtain ⟨rfl, rfl, rfl⟩ := trodAll_nil r3
  obtain rfl : args = #[v0, v1, v2, v3] := by cases args; simp_all
  obtain ⟨rfl, rfl⟩ := trodVars_none hV
  have k0 := h0
  have lt0 : ∀ x ∈ p0, x.block < W.heap.size := by obtain ⟨m, hm⟩ := k0; exact DataW.trod_lt m _ _ _ hm
  obtain ⟨cs0, rfl, hsz0⟩ := okWide_struct Try.underlying43 (hval 0 43 v0 rfl rfl)
  obtain ⟨f, hcs0⟩ : ∃ f, cs0.toList = encFt f := by
    obtain ⟨m, hm⟩ := h0
    exact open43 hm
  obtain rfl : cs0 = (encFt f).toArray := by rw [← hcs0]
  have k1 := h1
  have lt1 : ∀ x ∈ p1, x.block < W.heap.size := by obtain ⟨m, hm⟩ := k1; exact DataW.trod_lt m _ _ _ hm
  obtain ⟨cs1, rfl, hsz1⟩ := okWide_struct Try.underlying46 (hval 1 46 v1 rfl rfl)
  obtain ⟨b, ao, c, hcs1, hlb, hsb⟩ : ∃ b ao c, cs1.toList = encBn b ao c ∧ b.ripe.length ≤ 9223372036854775807 ∧ Sl W 2 encSp ao b.ripe := by
    obtain ⟨m, hm⟩ := h1
    exact open46 hm
  obtain rfl : cs1 = (encBn b ao c).toArray := by rw [← hcs1]
  have k2 := h2
  have lt2 : ∀ x ∈ p2, x.block < W.heap.size := by obtain ⟨m, hm⟩ := k2; exact DataW.trod_lt m _ _ _ hm
  obtain ⟨so2, sl2, sc2, rfl⟩ := okWide_slice Try.underlying47 (hval 2 47 v2 rfl rfl)
  obtain ⟨gl2, gc2, gn2, l2, rfl, hs2⟩ : sl2 ≤ sc2 ∧ sc2 ≤ maxLen ∧ (so2 = none → sc2 = 0) ∧ ∃ l : List Int, l.length = sl2 ∧ Sl W 1 encI so2 l := by
    obtain ⟨m, hm⟩ := h2
    exact trod_slice (enc := encI) (by omega) Try.underlying47 hm
  have ln2 : l2.length ≤ 9223372036854775807 := by simp only [maxLen] at gc2; omega
  have k3 := h3
  have lt3 : ∀ x ∈ p3, x.block < W.heap.size := by obtain ⟨m, hm⟩ := k3; exact DataW.trod_lt m _ _ _ hm
  obtain ⟨so3, sl3, sc3, rfl⟩ := okWide_slice Try.underlying75 (hval 3 75 v3 rfl rfl)
  obtain ⟨gl3, gc3, gn3, l3, rfl, hs3⟩ : sl3 ≤ sc3 ∧ sc3 ≤ maxLen ∧ (so3 = none → sc3 = 0) ∧ ∃ l : List U32, l.length = sl3 ∧ Sl W 1 encU so3 l := by
    obtain ⟨m, hm⟩ := h3
    exact trod_slice (enc := encU) (by omega) Try.underlying75 hm
  have ln3 : l3.length ≤ 9223372036854775807 := by simp only [maxLen] at gc3; omega
  clear hA0 hval0
  refine (c7 f b ao c l2 so2 sc2 l3 so3 sc3 hlb ln2 ln3 W hsb hs2 hs3).mono fun e W' ⟨he, bel⟩ => ?_
  subst he
  exact ⟨_, rfl, _, _, _, [], _, [], hW', trodAll_mk1 (shut_bool Try.underlying4 _), (trodAll_cons_mk (Below.trod laidOut (by kernel_rfl) (of_decide_eq_true (by kernel_rfl)) k0 bel lt0) (trodAll_cons_mk (Below.trod laidOut (by kernel_rfl) (of_decide_eq_true (by kernel_rfl)) k1 bel lt1) (trodAll_cons_mk (Below.trod laidOut (by kernel_rfl) (of_decide_eq_true (by kernel_rfl)) k2 bel lt2) (trodAll_cons_mk (Below.trod laidOut (by kernel_rfl) (of_decide_eq_true (by kernel_rfl)) k3 bel lt3) trodAll_mk0)))), rfl, bel.frame _, fun h => by cases h⟩

theorem over : Rows.dateTrueRow.holds Try.pinned (OpenSpec.ofChange Rows.dateTrueSpec) :=
  OpenClaim.holds_of_wide 7 Try.f7 rfl rfl rfl rfl rfl rfl rfl ⟨rfl, rfl, rfl, rfl, rfl⟩ rfl rfl rfl rfl rfl (by kernel_rfl) Try.func7 (by kernel_rfl)
    (of_decide_eq_true (by kernel_rfl)) (by unfold Func.isWrapper; first | (rw [if_pos (by decide +kernel)]; kernel_rfl) | (rw [if_neg (by decide +kernel)]; exact ⟨rfl, rfl⟩))
    (fun os started H enc _ => lifted os started H enc)

/-- The statement DateTrue. -/
theorem proved : Rows.DateTrueSaid := over
end Go.Proofs.Ytccgplomnjpniaa.dateTrue
