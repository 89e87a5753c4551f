/- Proved here: for every round and every number of goats the law DateRounds returns true, and its arguments read behind the call as they read before. It has no conditions. -/
import Derived.Test.YtccgplomnjpniaaD15
import Derived.Test.YtccgplomnjpniaaEngR
import Derived.Test.YtccgplomnjpniaaRows
import Derived.WalkKit
import Derived.ProofKit
import Derived.OpenShut
import Derived.ShutString
import Derived.ChangeOld
import Derived.Below
namespace Go.Proofs.Ytccgplomnjpniaa.dateRounds
open Go.ChangeShapes Go.WideShapes Go.ChangeAt Go.RowKit Go.Eng
set_option linter.unusedVariables false

theorem own : ownKnob Try.prog.godebug = none := by kernel_rfl
theorem laidOut : laidOutB Try.prog = true := by kernel_rfl

theorem cons1 {n : Nat} {l : List Value} (h : l.length = n + 1) : ∃ x l', l = x :: l' ∧ l'.length = n := by
  cases l with
  | nil => cases h
  | cons x l => exact ⟨x, l, rfl, by simpa using h⟩
theorem c3of : Try.prog.cellsOf 3 = 1 := by kernel_rfl
theorem c23of : Try.prog.cellsOf 23 = 2 := by kernel_rfl
theorem c39of : Try.prog.cellsOf 39 = 3 := by kernel_rfl
theorem c24of : Try.prog.cellsOf 24 = 1 := by kernel_rfl
theorem c26of : Try.prog.cellsOf 26 = 11 := by kernel_rfl
instance rd3 : RdT Try.prog 3 encI 1 := ⟨c3of, fun _ => rfl, fun h => by
  obtain ⟨n, rfl, _⟩ := trod_int Try.underlying3 h
  exact ⟨n, rfl⟩⟩
instance rd23 : RdT Try.prog 23 encSp 2 := ⟨c23of, fun _ => rfl, fun h => by
  obtain ⟨hl, fuel, hf⟩ := trod_struct Try.underlying23 h
  rw [c23of] at hl
  rename_i cs _
  obtain ⟨u, cs, rfl, hl1⟩ := cons1 hl
  obtain ⟨v, cs, rfl, hl2⟩ := cons1 hl1
  obtain rfl := List.eq_nil_of_length_eq_zero hl2
  obtain ⟨y, h1⟩ := hf _ (List.Mem.head _)
  obtain ⟨y, h2⟩ := hf _ (List.Mem.tail _ (List.Mem.head _))
  obtain ⟨a, ha⟩ := rd3.rd h1
  obtain ⟨b, hb⟩ := rd3.rd h2
  simp only [c3of] at ha hb
  simp [encI] at ha hb
  exact ⟨(a, b), by rw [ha, hb]; rfl⟩⟩
instance rd39 : RdT Try.prog 39 encSn 3 := ⟨c39of, fun _ => rfl, fun h => by
  obtain ⟨hl, fuel, hf⟩ := trod_struct Try.underlying39 h
  rw [c39of] at hl
  rename_i cs _
  obtain ⟨u, cs, rfl, hl1⟩ := cons1 hl
  obtain ⟨v, cs, rfl, hl2⟩ := cons1 hl1
  obtain ⟨z, cs, rfl, hl3⟩ := cons1 hl2
  obtain rfl := List.eq_nil_of_length_eq_zero hl3
  obtain ⟨y, h1⟩ := hf _ (List.Mem.head _)
  obtain ⟨y, h2⟩ := hf _ (List.Mem.tail _ (List.Mem.head _))
  obtain ⟨a, ha⟩ := rd23.rd h1
  obtain ⟨b, hb⟩ := rd3.rd h2
  simp only [c3of, c23of] at ha hb
  simp [encI, encSp] at ha hb
  exact ⟨(a, b), by rw [ha.1, ha.2, hb]; rfl⟩⟩
theorem open26 {H : Type} {encH : TypeId × Value → H} {w : World} {base : Nat} {spare : Nat → Bool} {held : Bool} {fuel : Nat} {cs : List Value} {x : DataW H × List MemPlace} (h : DataW.trod encH Try.prog w base spare held fuel 26 cs = some x) :
    ∃ R ao c, cs = encRd R ao c ∧ R.seas.length ≤ 9223372036854775807 ∧ Sl w 3 encSn ao R.seas := by
  obtain ⟨hl, fuel, hf⟩ := trod_struct Try.underlying26 h
  rw [c26of] at hl
  obtain ⟨x1, cs, rfl, hl1⟩ := cons1 hl
  obtain ⟨x2, cs, rfl, hl2⟩ := cons1 hl1
  obtain ⟨x3, cs, rfl, hl3⟩ := cons1 hl2
  obtain ⟨x4, cs, rfl, hl4⟩ := cons1 hl3
  obtain ⟨x5, cs, rfl, hl5⟩ := cons1 hl4
  obtain ⟨x6, cs, rfl, hl6⟩ := cons1 hl5
  obtain ⟨x7, cs, rfl, hl7⟩ := cons1 hl6
  obtain ⟨x8, cs, rfl, hl8⟩ := cons1 hl7
  obtain ⟨x9, cs, rfl, hl9⟩ := cons1 hl8
  obtain ⟨x10, cs, rfl, hl10⟩ := cons1 hl9
  obtain ⟨x11, cs, rfl, hl11⟩ := cons1 hl10
  obtain rfl := List.eq_nil_of_length_eq_zero hl11
  obtain ⟨y, h1⟩ := hf _ (List.Mem.head _)
  obtain ⟨y, h2⟩ := hf _ (List.Mem.tail _ (List.Mem.head _))
  obtain ⟨y, h3⟩ := hf _ (List.Mem.tail _ (List.Mem.tail _ (List.Mem.head _)))
  obtain ⟨y, h4⟩ := hf _ (List.Mem.tail _ (List.Mem.tail _ (List.Mem.tail _ (List.Mem.head _))))
  obtain ⟨y, h5⟩ := hf _ (List.Mem.tail _ (List.Mem.tail _ (List.Mem.tail _ (List.Mem.tail _ (List.Mem.head _)))))
  obtain ⟨y, h6⟩ := hf _ (List.Mem.tail _ (List.Mem.tail _ (List.Mem.tail _ (List.Mem.tail _ (List.Mem.tail _ (List.Mem.head _))))))
  obtain ⟨a1, e1⟩ := rd23.rd h1
  obtain ⟨a2, e2⟩ := rd23.rd h2
  obtain ⟨a3, e3⟩ := rd23.rd h3
  obtain ⟨a4, e4⟩ := rd23.rd h4
  obtain ⟨a5, e5⟩ := rd23.rd h5
  simp only [c23of, c24of] at e1 e2 e3 e4 e5 h6
  simp [encSp] at e1 e2 e3 e4 e5 h6
  obtain ⟨ao, len, cap, e6⟩ := trod_slice_form Try.underlying24 h6
  obtain rfl : x11 = .slice ao len cap := by simpa using e6
  obtain ⟨g1, g2, g3, l, rfl, hsl⟩ := trod_slice (enc := encSn) (by omega) Try.underlying24 h6
  exact ⟨⟨a1, a2, a3, a4, a5, l⟩, ao, cap, by rw [e1.1, e1.2, e2.1, e2.2, e3.1, e3.2, e4.1, e4.2, e5.1, e5.2]; rfl, by simp only [maxLen] at g2; dsimp only; omega, hsl⟩

set_option maxRecDepth 100000 in
theorem lifted (os : Os) (started : os.Started) (H : Type) (enc : TypeId × Value → H) :
    ReturnsInHanded {} Try.checked os 3 .any (Rows.dateRoundsSpec.pre6 enc Try.prog Try.f3 Rows.dateRoundsRow.domain false) (Rows.dateRoundsSpec.post enc Try.prog Try.f3 false true false false) := by
  refine returnsInHanded_of_change (C := Try.checked) own started (by kernel_rfl) Try.func3
    (ChangeSpec.witness6 (enc := enc) (C := Try.checked) false ⟨#[], #[.agg #[.int .i64 0, .int .i64 0, .int .i64 0, .int .i64 0, .int .i64 0, .int .i64 0, .int .i64 0, .int .i64 0, .int .i64 0, .int .i64 0, .slice none 0 0], .int .i64 0], []⟩ 8 (by kernel_rfl) (by kernel_rfl) (by kernel_rfl) (by kernel_rfl)) ?_
  intro W base args ds gs before hval0 hW hcnd _
  have hval : ∀ (j : Nat) t v, Try.f3.params[j]? = some t → args[j]? = some v → Value.okWide Try.prog W .any base t v := hval0
  have hW' := hW
  obtain ⟨p, q, hA0, hV, rfl, hfz, hnd⟩ := hW
  have hA : DataW.TrodAll enc Try.prog W 0 (fun _ => true) true Try.f3.params.toList args.toList ds p := hA0
  rw [Try.params3] at hA hval
  obtain ⟨v0, vs0, d0, ds0, p0, q0, hargs, rfl, rfl, h0, r0⟩ := trodAll_cons hA
  obtain ⟨v1, vs1, d1, ds1, p1, q1, rfl, rfl, rfl, h1, r1⟩ := trodAll_cons r0
  obtain ⟨rfl, rfl, rfl⟩ := trodAll_nil r1
  obtain rfl : args = #[v0, v1] := by cases args; simp_all
  obtain ⟨rfl, rfl⟩ := trodVars_none hV
  obtain ⟨cs0, rfl, hsz0⟩ := okWide_struct Try.underlying26 (hval 0 26 v0 rfl rfl)
  have k0 := h0
  have lt0 : ∀ x ∈ p0, x.block < W.heap.size := by obtain ⟨m, hm⟩ := k0; exact DataW.trod_lt m _ _ _ hm
  obtain ⟨R, ao, c, hcs, hlen, hsl⟩ : ∃ R ao c, cs0.toList = encRd R ao c ∧ R.seas.length ≤ 9223372036854775807 ∧ Sl W 3 encSn ao R.seas := by
    obtain ⟨m, hm⟩ := h0
    exact open26 hm
  obtain rfl : cs0 = (encRd R ao c).toArray := by rw [← hcs]
  obtain ⟨a1, rfl, rfl, rfl, w1⟩ := open_int Try.underlying3 (hval 1 3 v1 rfl rfl) h1
  clear hA0 hval0
  refine (c3 R a1 ao c hlen W hsl).mono fun e W' ⟨he, bel⟩ => ?_
  subst he
  exact ⟨_, rfl, _, _, _, [], _, [], hW', trodAll_mk1 (shut_bool Try.underlying4 _), (trodAll_cons_mk (Below.trod laidOut (by kernel_rfl) (of_decide_eq_true (by kernel_rfl)) k0 bel lt0) (trodAll_cons_mk (shut_int Try.underlying3 w1) trodAll_mk0)), rfl, bel.frame _, fun h => by cases h⟩

theorem over : Rows.dateRoundsRow.holds Try.pinned (OpenSpec.ofChange Rows.dateRoundsSpec) :=
  OpenClaim.holds_of_wide 3 Try.f3 rfl rfl rfl rfl rfl rfl rfl ⟨rfl, rfl, rfl, rfl, rfl⟩ rfl rfl rfl rfl rfl (by kernel_rfl) Try.func3 (by kernel_rfl)
    (of_decide_eq_true (by kernel_rfl)) (by unfold Func.isWrapper; first | (rw [if_pos (by decide +kernel)]; kernel_rfl) | (rw [if_neg (by decide +kernel)]; exact ⟨rfl, rfl⟩))
    (fun os started H enc _ => lifted os started H enc)

/-- The statement DateRounds. -/
theorem proved : Rows.DateRoundsSaid := over
end Go.Proofs.Ytccgplomnjpniaa.dateRounds
