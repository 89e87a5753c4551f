/- Proved here: for every survey and points the law LevelLoop returns true, and its arguments read behind the call as they read before. It has no conditions. -/
import Derived.Test.YtoolblbdmmiahaaL29
import Derived.Test.YtoolblbdmmiahaaLR0
import Derived.Test.YtoolblbdmmiahaaRows
import Derived.WalkKit
import Derived.ProofKit
import Derived.OpenShut
import Derived.ShutString
import Derived.ChangeOld
import Derived.Below
namespace Go.Proofs.Ytoolblbdmmiahaa.levelLoop
open Go.ChangeShapes Go.WideShapes Go.ChangeAt Go.RowKit Go.Eng
set_option linter.unusedVariables false

set_option maxRecDepth 100000 in
theorem lifted (os : Os) (started : os.Started) (H : Type) (enc : TypeId × Value → H) :
    ReturnsInHanded {} Try.checked os 9 .any (Rows.levelLoopSpec.pre6 enc Try.prog Try.f9 Rows.levelLoopRow.domain false) (Rows.levelLoopSpec.post enc Try.prog Try.f9 false true false false) := by
  refine returnsInHanded_of_change (C := Try.checked) own started (by kernel_rfl) Try.func9
    (ChangeSpec.witness6 (enc := enc) (C := Try.checked) false ⟨#[], #[.agg #[.int .i64 0, .slice none 0 0, .slice none 0 0, .slice none 0 0], .slice none 0 0], []⟩ 8 (by kernel_rfl) (by kernel_rfl) (by kernel_rfl) (by kernel_rfl)) ?_
  intro W base args ds gs before hval0 hW hcnd _
  have hval : ∀ (j : Nat) t v, Try.f9.params[j]? = some t → args[j]? = some v → Value.okWide Try.prog W .any base t v := hval0
  have hW' := hW
  obtain ⟨p, q, hA0, hV, rfl, hfz, hnd⟩ := hW
  have hA : DataW.TrodAll enc Try.prog W 0 (fun _ => true) true Try.f9.params.toList args.toList ds p := hA0
  rw [Try.params9] at hA hval
  obtain ⟨v0, vs0, d0, ds0, p0, q0, hargs, rfl, rfl, h0, r0⟩ := trodAll_cons hA
  obtain ⟨v1, vs1, d1, ds1, p1, q1, rfl, rfl, rfl, h1, r1⟩ := trodAll_cons r0
  obtain ⟨rfl, rfl, rfl⟩ := trodAll_nil r1
  obtain rfl : args = #[v0, v1] := by cases args; simp_all
  obtain ⟨rfl, rfl⟩ := trodVars_none hV
  have k0 := h0
  have lt0 : ∀ x ∈ p0, x.block < W.heap.size := by obtain ⟨m, hm⟩ := k0; exact DataW.trod_lt m _ _ _ hm
  obtain ⟨cs0, rfl, hsz0⟩ := okWide_struct Try.underlying26 (hval 0 26 v0 rfl rfl)
  obtain ⟨S, p, hcs0, hlb1, hlb2, hlb3, hsb⟩ : ∃ S p, cs0.toList = encSv S p ∧ S.shots.length ≤ 9223372036854775807 ∧ S.marks.length ≤ 9223372036854775807 ∧ S.thr.length ≤ 9223372036854775807 ∧ SvAt W S p := by
    obtain ⟨m, hm⟩ := h0
    exact open26 hm
  obtain rfl : cs0 = (encSv S p).toArray := by rw [← hcs0]
  have k1 := h1
  have lt1 : ∀ x ∈ p1, x.block < W.heap.size := by obtain ⟨m, hm⟩ := k1; exact DataW.trod_lt m _ _ _ hm
  obtain ⟨so1, sl1, sc1, rfl⟩ := okWide_slice Try.underlying46 (hval 1 46 v1 rfl rfl)
  obtain ⟨gl1, gc1, gn1, l1, rfl, hs1⟩ : sl1 ≤ sc1 ∧ sc1 ≤ maxLen ∧ (so1 = none → sc1 = 0) ∧ ∃ l : List Int, l.length = sl1 ∧ Sl W 1 encI so1 l := by
    obtain ⟨m, hm⟩ := h1
    exact trod_slice (enc := encI) (by omega) Try.underlying46 hm
  have ln1 : l1.length ≤ 9223372036854775807 := by simp only [maxLen] at gc1; omega
  clear hA0 hval0
  refine (c9 S p l1 so1 sc1 hlb1 hlb2 hlb3 ln1 W hsb hs1).mono fun e W' ⟨he, bel⟩ => ?_
  subst he
  exact ⟨_, rfl, _, _, _, [], _, [], hW', trodAll_mk1 (shut_bool Try.underlying4 _), (trodAll_cons_mk (Below.trod laidOut (by kernel_rfl) (of_decide_eq_true (by kernel_rfl)) k0 bel lt0) (trodAll_cons_mk (Below.trod laidOut (by kernel_rfl) (of_decide_eq_true (by kernel_rfl)) k1 bel lt1) trodAll_mk0)), rfl, bel.frame _, fun h => by cases h⟩

theorem over : Rows.levelLoopRow.holds Try.pinned (OpenSpec.ofChange Rows.levelLoopSpec) :=
  OpenClaim.holds_of_wide 9 Try.f9 rfl rfl rfl rfl rfl rfl rfl ⟨rfl, rfl, rfl, rfl, rfl⟩ rfl rfl rfl rfl rfl (by kernel_rfl) Try.func9 (by kernel_rfl)
    (of_decide_eq_true (by kernel_rfl)) (by unfold Func.isWrapper; first | (rw [if_pos (by decide +kernel)]; kernel_rfl) | (rw [if_neg (by decide +kernel)]; exact ⟨rfl, rfl⟩))
    (fun os started H enc _ => lifted os started H enc)

/-- The statement LevelLoop. -/
theorem proved : Rows.LevelLoopSaid := over
end Go.Proofs.Ytoolblbdmmiahaa.levelLoop
