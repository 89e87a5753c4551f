/- Readers of this seat's arguments. Readers of nets. -/
import Derived.Test.YtkpkebpofpcmaaaGreatDoorT0
import Derived.Test.YtkpkebpofpcmaaaGreatDoorH8
import Derived.Test.YtkpkebpofpcmaaaGreatDoorEngR2
import Derived.WalkKit
import Derived.ProofKit
import Derived.OpenShut
import Derived.ShutString
import Derived.ChangeOld
import Derived.Below
import Derived.LaidMore
import Derived.LaidOnce
import Derived.Test.YtkpkebpofpcmaaaGreatDoorRows
namespace Go.Eng
open Go Go.RowKit
section
variable {P : Program} {Hh : Type} {encH : TypeId × Value → Hh} {w : World} {base : Nat} {spare : Nat → Bool} {held : Bool} {fuel : Nat} {t e : TypeId} {cs : List Value} {x : DataW Hh × List MemPlace}
/-- A slice that came in, as plain data. -/
theorem trod_sliceP {α : Type} {enc : α → List Value} {k : Nat} {ao : Option Addr} {len cap : Nat} {QQ : α → Prop} (hsize : P.cellsOf e = k) (hlenA : ∀ a : α, (enc a).length = k) (hrd : ∀ {fuel : Nat} {cs : List Value} {x : DataW Hh × List MemPlace}, DataW.trod encH P w base spare held fuel e cs = some x → ∃ u : α, QQ u ∧ cs = enc u) (hk : 0 < k) (ht : P.underlying t = some (.slice e)) (h : DataW.trod encH P w base spare held fuel t [.slice ao len cap] = some x) :
    len ≤ cap ∧ cap ≤ maxLen ∧ (ao = none → cap = 0) ∧ ∃ l : List α, l.length = len ∧ Sl w k enc ao l ∧ ∀ u ∈ l, QQ u := by
  cases fuel with
  | zero => simp [DataW.trod] at h
  | succ fuel =>
    unfold DataW.trod at h
    rw [ht] at h
    cases ao with
    | none =>
      by_cases h0 : len = 0 ∧ cap = 0
      · obtain ⟨rfl, rfl⟩ := h0
        exact ⟨Nat.le_refl _, Nat.zero_le _, fun _ => rfl, [], rfl, Sl.nil _ _ _ _, fun u hu => by cases hu⟩
      · exfalso
        split at h <;> simp_all
    | some a =>
      simp only at h
      split at h
      · rename_i hc
        refine ⟨hc.2.1, hc.2.2, (fun h => by cases h), ?_⟩
        cases hm : (List.range len).mapM fun i => (w.cells? base (a.add (i * P.cellsOf e)) (P.cellsOf e)).bind (DataW.trod encH P w base spare held fuel e) with
        | none => rw [hm] at h; simp at h
        | some ys =>
          have hall : ∀ i, i < len → ∃ u : α, QQ u ∧ ∃ cs', w.cells? base (a.add (i * k)) k = some cs' ∧ cs' = enc u := fun i hi => by
            obtain ⟨y, hy, _⟩ := (mapM_opt hm).2 i i (by simp [hi])
            rw [hsize] at hy
            cases hcs : w.cells? base (a.add (i * k)) k with
            | none => rw [hcs] at hy; simp at hy
            | some cs' =>
              rw [hcs] at hy
              obtain ⟨u, hq, hu⟩ := hrd hy
              exact ⟨u, hq, cs', rfl, hu⟩
          have hcell : ∀ i, i < len → ∀ u : α, w.cells? base (a.add (i * k)) k = some (enc u) → ∀ f v, (enc u)[f]? = some v → w.cell? ((a.add (i * k)).add f) = some v := fun i hi u hu f v hv => by
            unfold World.cells? at hu
            split at hu
            · have hf : f < k := by rw [← hlenA u]; exact (List.getElem?_eq_some_iff.1 hv).1
              obtain ⟨y, hy, hz⟩ := (mapM_opt hu).2 f f (by simp [hf])
              rw [hv] at hz; cases hz; exact hy
            · cases hu
          have hlist : ∀ n, n ≤ len → ∃ l : List α, l.length = n ∧ ∀ i u, l[i]? = some u → w.cells? base (a.add (i * k)) k = some (enc u) ∧ QQ u := by
            intro n
            induction n with
            | zero => intro _; exact ⟨[], rfl, fun i u h => by simp at h⟩
            | succ n ih =>
              intro hn
              obtain ⟨l, hl, hL⟩ := ih (by omega)
              obtain ⟨u, hq, cs', h1, rfl⟩ := hall n (by omega)
              refine ⟨l ++ [u], by simp [hl], fun i v hv => ?_⟩
              rcases Nat.lt_trichotomy i l.length with h | h | h
              · rw [List.getElem?_append_left h] at hv; exact hL i v hv
              · subst h; simp at hv; subst hv; rw [hl]; exact ⟨h1, hq⟩
              · rw [List.getElem?_eq_none (by simp; omega)] at hv; cases hv
          obtain ⟨l, hl, hL⟩ := hlist len (Nat.le_refl _)
          have hspot : l ≠ [] → a.spot = none := fun hne => by
            have hpos : 0 < l.length := List.length_pos_iff.2 hne
            have h1 := (hL 0 l[0] (by simp [hpos])).1
            have h2 : 0 < (enc l[0]).length := by rw [hlenA]; exact hk
            have := hcell 0 (by omega) l[0] h1 0 _ (List.getElem?_eq_getElem h2)
            simp only [Nat.zero_mul, Addr.add, if_true] at this
            unfold World.cell? at this
            split at this
            · split at this
              · cases this
              · rename_i hs; cases hsp : a.spot with
                | none => rfl
                | some _ => simp [hsp] at hs
            · cases this
          refine ⟨l, hl, ⟨fun u _ => hlenA u, fun hne => ⟨a.block, a.off, by rw [← hspot hne]⟩, fun i u hu f v hv => ?_⟩, fun u hu => by
            obtain ⟨i, hi⟩ := List.getElem?_of_mem hu
            exact (hL i u hi).2⟩
          have hne : l ≠ [] := by intro h; simp [h] at hu
          have hi : i < len := by rw [← hl]; exact (List.getElem?_eq_some_iff.1 hu).1
          have := hcell i hi u (hL i u hu).1 f v hv
          have hs := hspot hne
          have ea : a = ⟨a.block, a.off, none⟩ := by rw [← hs]
          rw [ea] at this
          rw [add_plain', add_plain'] at this
          show w.cell? ⟨a.block, a.off + (i * k + f), none⟩ = some v
          rw [← Nat.add_assoc]; exact this
      · cases h
end
end Go.Eng
namespace Go.Proofs.YtkpkebpofpcmaaaGreatDoor
open Go.ChangeShapes Go.WideShapes Go.ChangeAt Go.RowKit Go.Eng
set_option linter.unusedVariables false

theorem own : ownKnob Tryz.prog.godebug = none := by kernel_rfl
theorem laidOut : laidOutB Tryz.prog = true := by kernel_rfl
theorem wf_u32 {n : Int} (h : (Lit.int .u32 n).wf = true) : 0 ≤ n ∧ n ≤ 4294967295 := by
  have e1 : IntKind.u32.min = 0 := by kernel_rfl
  have e2 : IntKind.u32.max = 4294967295 := by kernel_rfl
  simpa [Lit.wf, e1, e2] using h
def encB8 (x : Int) : List Value := [.int .u8 x]
theorem c3of : Tryz.prog.cellsOf 3 = 1 := by kernel_rfl
theorem c5of : Tryz.prog.cellsOf 5 = 1 := by kernel_rfl
theorem c25of : Tryz.prog.cellsOf 25 = 2 := by kernel_rfl
theorem c38of : Tryz.prog.cellsOf 38 = 2 := by kernel_rfl
theorem c40of : Tryz.prog.cellsOf 40 = 3 := by kernel_rfl
theorem c41of : Tryz.prog.cellsOf 41 = 1 := by kernel_rfl
theorem c43of : Tryz.prog.cellsOf 43 = 2 := by kernel_rfl
theorem c46of : Tryz.prog.cellsOf 46 = 1 := by kernel_rfl
theorem c48of : Tryz.prog.cellsOf 48 = 1 := by kernel_rfl
theorem c50of : Tryz.prog.cellsOf 50 = 9 := by kernel_rfl
theorem c214of : Tryz.prog.cellsOf 214 = 2 := by kernel_rfl
instance rd3 : RdT Tryz.prog 3 encI 1 := ⟨c3of, fun _ => rfl, fun h => by
  obtain ⟨n, rfl, _⟩ := trod_int Tryz.underlying3 h
  exact ⟨n, rfl⟩⟩
instance rd5 : RdT Tryz.prog 5 encB8 1 := ⟨c5of, fun _ => rfl, fun h => by
  obtain ⟨n, rfl, _⟩ := trod_int Tryz.underlying5 h
  exact ⟨n, rfl⟩⟩
instance rd25 : RdT Tryz.prog 25 encSp 2 := ⟨c25of, fun _ => rfl, fun h => by
  rename_i cs _
  obtain ⟨hl0, fuel, hf⟩ := trod_struct Tryz.underlying25 h
  rw [c25of] at hl0
  obtain ⟨x1, cs, rfl, hl1⟩ := cons1 hl0
  obtain ⟨x2, cs, rfl, hl2⟩ := cons1 hl1
  obtain rfl := List.eq_nil_of_length_eq_zero hl2
  obtain ⟨y, h1⟩ := hf _ (List.Mem.head _)
  obtain ⟨y, h2⟩ := hf _ (List.Mem.tail _ (List.Mem.head _))
  obtain ⟨a1, e1⟩ := rd3.rd h1
  simp only [c3of] at e1
  simp [encI] at e1
  subst e1
  obtain ⟨a2, e2⟩ := rd3.rd h2
  simp only [c3of] at e2
  simp [encI] at e2
  subst e2
  exact ⟨(a1, a2), rfl⟩⟩
instance rd38 : RdT Tryz.prog 38 encSp 2 := ⟨c38of, fun _ => rfl, fun h => by
  rename_i cs _
  obtain ⟨hl0, fuel, hf⟩ := trod_struct Tryz.underlying38 h
  rw [c38of] at hl0
  obtain ⟨x1, cs, rfl, hl1⟩ := cons1 hl0
  obtain ⟨x2, cs, rfl, hl2⟩ := cons1 hl1
  obtain rfl := List.eq_nil_of_length_eq_zero hl2
  obtain ⟨y, h1⟩ := hf _ (List.Mem.head _)
  obtain ⟨y, h2⟩ := hf _ (List.Mem.tail _ (List.Mem.head _))
  obtain ⟨a1, e1⟩ := rd3.rd h1
  simp only [c3of] at e1
  simp [encI] at e1
  subst e1
  obtain ⟨a2, e2⟩ := rd3.rd h2
  simp only [c3of] at e2
  simp [encI] at e2
  subst e2
  exact ⟨(a1, a2), rfl⟩⟩
instance rd214 : RdT Tryz.prog 214 encSp 2 := ⟨c214of, fun _ => rfl, fun h => by
  rename_i cs _
  obtain ⟨hl0, fuel, hf⟩ := trod_struct Tryz.underlying214 h
  rw [c214of] at hl0
  obtain ⟨x1, cs, rfl, hl1⟩ := cons1 hl0
  obtain ⟨x2, cs, rfl, hl2⟩ := cons1 hl1
  obtain rfl := List.eq_nil_of_length_eq_zero hl2
  obtain ⟨y, h1⟩ := hf _ (List.Mem.head _)
  obtain ⟨y, h2⟩ := hf _ (List.Mem.tail _ (List.Mem.head _))
  obtain ⟨a1, e1⟩ := rd3.rd h1
  simp only [c3of] at e1
  simp [encI] at e1
  subst e1
  obtain ⟨a2, e2⟩ := rd3.rd h2
  simp only [c3of] at e2
  simp [encI] at e2
  subst e2
  exact ⟨(a1, a2), rfl⟩⟩
instance rd40 : RdT Tryz.prog 40 encHo 3 := ⟨c40of, fun _ => rfl, fun h => by
  rename_i cs _
  obtain ⟨hl0, fuel, hf⟩ := trod_struct Tryz.underlying40 h
  rw [c40of] at hl0
  obtain ⟨x1, cs, rfl, hl1⟩ := cons1 hl0
  obtain ⟨x2, cs, rfl, hl2⟩ := cons1 hl1
  obtain ⟨x3, cs, rfl, hl3⟩ := cons1 hl2
  obtain rfl := List.eq_nil_of_length_eq_zero hl3
  obtain ⟨y, h1⟩ := hf _ (List.Mem.head _)
  obtain ⟨y, h2⟩ := hf _ (List.Mem.tail _ (List.Mem.head _))
  obtain ⟨a1, e1⟩ := rd3.rd h1
  simp only [c38of, c3of] at e1
  simp [encI] at e1
  subst e1
  obtain ⟨a2, e2⟩ := rd38.rd h2
  simp only [c38of, c3of] at e2
  simp [encSp] at e2
  obtain ⟨rfl, rfl⟩ := e2
  exact ⟨⟨a1, a2⟩, rfl⟩⟩
theorem open43 {H : Type} {encH : TypeId × Value → H} {w : World} {base : Nat} {spare : Nat → Bool} {held : Bool} {fuel : Nat} {cs : List Value} {x : DataW H × List MemPlace} (h : DataW.trod encH Tryz.prog w base spare held fuel 43 cs = some x) : ∃ r : Ro, cs = encRo r ∧ Sl w 3 encHo r.ao r.holds ∧ r.holds.length ≤ 9223372036854775807 := by
  obtain ⟨hl0, fuel, hf⟩ := trod_struct Tryz.underlying43 h
  rw [c43of] at hl0
  obtain ⟨x1, cs, rfl, hl1⟩ := cons1 hl0
  obtain ⟨x2, cs, rfl, hl2⟩ := cons1 hl1
  obtain rfl := List.eq_nil_of_length_eq_zero hl2
  obtain ⟨y, h1⟩ := hf _ (List.Mem.head _)
  obtain ⟨y, h2⟩ := hf _ (List.Mem.tail _ (List.Mem.head _))
  obtain ⟨a1, e1⟩ := rd3.rd h1
  simp only [c3of, c41of] at e1
  simp [encI] at e1
  subst e1
  simp only [c3of, c41of] at h2
  simp at h2
  obtain ⟨ao2, len2, cap2, e2⟩ := trod_slice_form Tryz.underlying41 h2
  simp at e2
  subst e2
  obtain ⟨g1, g2, g3, l1, rfl, hs1⟩ := trod_slice (enc := encHo) (by omega) Tryz.underlying41 h2
  exact ⟨⟨a1, l1, ao2, cap2⟩, rfl, hs1, by simp only [maxLen] at g2; dsimp only; omega⟩
theorem open50 {H : Type} {encH : TypeId × Value → H} {w : World} {base : Nat} {spare : Nat → Bool} {held : Bool} {fuel : Nat} {cs : List Value} {x : DataW H × List MemPlace} (h : DataW.trod encH Tryz.prog w base spare held fuel 50 cs = some x) : ∃ d : Dd, (Sl w 2 encSp d.ao d.heirs ∧ d.heirs.length ≤ 9223372036854775807) ∧ cs = encDd d := by
  obtain ⟨hl0, fuel, hf⟩ := trod_struct Tryz.underlying50 h
  rw [c50of] at hl0
  obtain ⟨x1, cs, rfl, hl1⟩ := cons1 hl0
  obtain ⟨x2, cs, rfl, hl2⟩ := cons1 hl1
  obtain ⟨x3, cs, rfl, hl3⟩ := cons1 hl2
  obtain ⟨x4, cs, rfl, hl4⟩ := cons1 hl3
  obtain ⟨x5, cs, rfl, hl5⟩ := cons1 hl4
  obtain ⟨x6, cs, rfl, hl6⟩ := cons1 hl5
  obtain ⟨x7, cs, rfl, hl7⟩ := cons1 hl6
  obtain ⟨x8, cs, rfl, hl8⟩ := cons1 hl7
  obtain ⟨x9, cs, rfl, hl9⟩ := cons1 hl8
  obtain rfl := List.eq_nil_of_length_eq_zero hl9
  obtain ⟨y, h1⟩ := hf _ (List.Mem.head _)
  obtain ⟨y, h2⟩ := hf _ (List.Mem.tail _ (List.Mem.head _))
  obtain ⟨y, h3⟩ := hf _ (List.Mem.tail _ (List.Mem.tail _ (List.Mem.head _)))
  obtain ⟨y, h4⟩ := hf _ (List.Mem.tail _ (List.Mem.tail _ (List.Mem.tail _ (List.Mem.head _))))
  obtain ⟨y, h5⟩ := hf _ (List.Mem.tail _ (List.Mem.tail _ (List.Mem.tail _ (List.Mem.tail _ (List.Mem.head _)))))
  obtain ⟨y, h6⟩ := hf _ (List.Mem.tail _ (List.Mem.tail _ (List.Mem.tail _ (List.Mem.tail _ (List.Mem.tail _ (List.Mem.head _))))))
  obtain ⟨y, h7⟩ := hf _ (List.Mem.tail _ (List.Mem.tail _ (List.Mem.tail _ (List.Mem.tail _ (List.Mem.tail _ (List.Mem.tail _ (List.Mem.head _)))))))
  obtain ⟨y, h8⟩ := hf _ (List.Mem.tail _ (List.Mem.tail _ (List.Mem.tail _ (List.Mem.tail _ (List.Mem.tail _ (List.Mem.tail _ (List.Mem.tail _ (List.Mem.head _))))))))
  obtain ⟨a1, e1⟩ := rd3.rd h1
  simp only [c38of, c3of, c48of, c5of] at e1
  simp [encI] at e1
  subst e1
  obtain ⟨a2, e2⟩ := rd3.rd h2
  simp only [c38of, c3of, c48of, c5of] at e2
  simp [encI] at e2
  subst e2
  obtain ⟨a3, e3⟩ := rd5.rd h3
  simp only [c38of, c3of, c48of, c5of] at e3
  simp [encB8] at e3
  subst e3
  obtain ⟨a4, e4⟩ := rd3.rd h4
  simp only [c38of, c3of, c48of, c5of] at e4
  simp [encI] at e4
  subst e4
  obtain ⟨a5, e5⟩ := rd3.rd h5
  simp only [c38of, c3of, c48of, c5of] at e5
  simp [encI] at e5
  subst e5
  obtain ⟨a6, e6⟩ := rd38.rd h6
  simp only [c38of, c3of, c48of, c5of] at e6
  simp [encSp] at e6
  obtain ⟨rfl, rfl⟩ := e6
  obtain ⟨a7, e7⟩ := rd3.rd h7
  simp only [c38of, c3of, c48of, c5of] at e7
  simp [encI] at e7
  subst e7
  simp only [c38of, c3of, c48of, c5of] at h8
  simp at h8
  obtain ⟨ao8, len8, cap8, e8⟩ := trod_slice_form Tryz.underlying48 h8
  simp at e8
  subst e8
  obtain ⟨g1, g2, g3, l1, rfl, hs1⟩ := trod_slice (enc := encSp) (by omega) Tryz.underlying48 h8
  exact ⟨⟨a1, a2, a3, a4, a5, a6, a7, l1, ao8, cap8⟩, ⟨hs1, by simp only [maxLen] at g2; dsimp only; omega⟩, rfl⟩
theorem open46 {H : Type} {encH : TypeId × Value → H} {w : World} {base : Nat} {spare : Nat → Bool} {held : Bool} {fuel : Nat} {cs : List Value} {x : DataW H × List MemPlace} (h : DataW.trod encH Tryz.prog w base spare held fuel 46 cs = some x) : ∃ n : Int, (0 ≤ n ∧ n ≤ 4294967295) ∧ cs = encU n := by
  obtain ⟨n, rfl, hw⟩ := trod_int Tryz.underlying46 h
  exact ⟨n, wf_u32 hw, rfl⟩
set_option maxRecDepth 100000
/-- The condition on the listed variable, as the walks take it. -/
theorem nv_of_laid {W : World} (h : laidMetH Tryz.prog [("aflaj/hour.never", Rows.laid_aflaj_hour_never)] W) : Nv W := by
  rw [MakeChecks.laidMetH_plain _ _ _ (by kernel_rfl)] at h
  obtain ⟨ps, ⟨g, t, cs, fuel, p, q, hg, ht, hv, hd, _, _⟩, _, _⟩ := h
  have g0 : Tryz.prog.globalNamed "aflaj/hour.never" = some 0 := by kernel_rfl
  obtain rfl := Option.some.inj (g0.symm.trans hg)
  obtain rfl := Option.some.inj ((show (Tryz.prog.globals[0]?).map (·.type) = some 106 by kernel_rfl).symm.trans ht)
  have c106 : Tryz.prog.cellsOf 106 = 2 := by kernel_rfl
  obtain ⟨xs, m, _, ex, hlen, hl, hel⟩ := DataW.trod_array Tryz.underlying106 hd
  rw [c106] at hlen
  obtain ⟨l⟩ := cs
  match l, hlen with
  | [a, b], _ =>
    match xs, hl with
    | [x0, x1], _ =>
      have e3 := (DataW.agg.inj (Prod.mk.inj ex).1)
      simp only [List.map_cons, List.map_nil, List.cons.injEq, and_true] at e3
      have k0 := hel 0 (by omega); have k1 := hel 1 (by omega)
      rw [c3of] at k0 k1
      obtain ⟨z0, a0, b0, _⟩ := DataW.trod_int Tryz.underlying3 k0
      obtain ⟨z1, a1, b1, _⟩ := DataW.trod_int Tryz.underlying3 k1
      have hcell := World.var?_cell g0 hv
      have ea : a = .int .i64 1 := by simp_all
      have eb : b = .int .i64 0 := by simp_all
      subst ea eb
      refine ⟨fun _ _ => rfl, fun _ => ⟨0, 0, rfl⟩, fun i x hx f v hv' => ?_⟩
      cases i with
      | zero =>
        simp at hx; subst hx
        match f, hv' with
        | 0, hv' => cases hv'; exact hcell 0
        | 1, hv' => cases hv'; exact hcell 1
        | f + 2, hv' => simp [encSp] at hv'
      | succ i => simp at hx
end Go.Proofs.YtkpkebpofpcmaaaGreatDoor

namespace Go.Proofs.YtkpkebpofpcmaaaGreatDoor
open Go.ChangeShapes Go.WideShapes Go.ChangeAt Go.RowKit Go.Eng
set_option linter.unusedVariables false
theorem c54of : Tryz.prog.cellsOf 54 = 1 := by kernel_rfl
theorem c55of : Tryz.prog.cellsOf 55 = 1 := by kernel_rfl
theorem c57of : Tryz.prog.cellsOf 57 = 4 := by kernel_rfl
theorem c87of : Tryz.prog.cellsOf 87 = 5 := by kernel_rfl
instance rd87 : RdT Tryz.prog 87 encCn 5 := ⟨c87of, fun _ => rfl, fun h => by
  rename_i cs _
  obtain ⟨hl0, fuel, hf⟩ := trod_struct Tryz.underlying87 h
  rw [c87of] at hl0
  obtain ⟨x1, cs, rfl, hl1⟩ := cons1 hl0
  obtain ⟨x2, cs, rfl, hl2⟩ := cons1 hl1
  obtain ⟨x3, cs, rfl, hl3⟩ := cons1 hl2
  obtain ⟨x4, cs, rfl, hl4⟩ := cons1 hl3
  obtain ⟨x5, cs, rfl, hl5⟩ := cons1 hl4
  obtain rfl := List.eq_nil_of_length_eq_zero hl5
  obtain ⟨y, h1⟩ := hf _ (List.Mem.head _)
  obtain ⟨y, h2⟩ := hf _ (List.Mem.tail _ (List.Mem.head _))
  obtain ⟨y, h3⟩ := hf _ (List.Mem.tail _ (List.Mem.tail _ (List.Mem.head _)))
  obtain ⟨a1, e1⟩ := rd3.rd h1
  simp only [c25of, c3of] at e1
  simp [encI] at e1
  subst e1
  obtain ⟨a2, e2⟩ := rd25.rd h2
  simp only [c25of, c3of] at e2
  simp [encSp] at e2
  obtain ⟨rfl, rfl⟩ := e2
  obtain ⟨a3, e3⟩ := rd25.rd h3
  simp only [c25of, c3of] at e3
  simp [encSp] at e3
  obtain ⟨rfl, rfl⟩ := e3
  exact ⟨⟨a1, a2, a3⟩, rfl⟩⟩
theorem open57 {H : Type} {encH : TypeId × Value → H} {w : World} {base : Nat} {spare : Nat → Bool} {held : Bool} {fuel : Nat} {cs : List Value} {x : DataW H × List MemPlace} (h : DataW.trod encH Tryz.prog w base spare held fuel 57 cs = some x) : ∃ n : Nt, cs = encNt n ∧ Sl w 5 encCn n.cao n.canals ∧ Sl w 1 encI n.fao n.fields := by
  obtain ⟨hl0, fuel, hf⟩ := trod_struct Tryz.underlying57 h
  rw [c57of] at hl0
  obtain ⟨x1, cs, rfl, hl1⟩ := cons1 hl0
  obtain ⟨x2, cs, rfl, hl2⟩ := cons1 hl1
  obtain ⟨x3, cs, rfl, hl3⟩ := cons1 hl2
  obtain ⟨x4, cs, rfl, hl4⟩ := cons1 hl3
  obtain rfl := List.eq_nil_of_length_eq_zero hl4
  obtain ⟨y, h1⟩ := hf _ (List.Mem.head _)
  obtain ⟨y, h2⟩ := hf _ (List.Mem.tail _ (List.Mem.head _))
  obtain ⟨y, h3⟩ := hf _ (List.Mem.tail _ (List.Mem.tail _ (List.Mem.head _)))
  obtain ⟨y, h4⟩ := hf _ (List.Mem.tail _ (List.Mem.tail _ (List.Mem.tail _ (List.Mem.head _))))
  simp only [c3of, c54of, c55of] at h1
  simp at h1
  obtain ⟨ao1, len1, cap1, e1⟩ := trod_slice_form Tryz.underlying54 h1
  simp at e1
  subst e1
  simp only [c3of, c54of, c55of] at h2
  simp at h2
  obtain ⟨ao2, len2, cap2, e2⟩ := trod_slice_form Tryz.underlying55 h2
  simp at e2
  subst e2
  obtain ⟨a3, e3⟩ := rd3.rd h3
  simp only [c3of, c54of, c55of] at e3
  simp [encI] at e3
  subst e3
  obtain ⟨a4, e4⟩ := rd3.rd h4
  simp only [c3of, c54of, c55of] at e4
  simp [encI] at e4
  subst e4
  obtain ⟨g1, g2, g3, l1, rfl, hs1⟩ := trod_slice (enc := encCn) (by omega) Tryz.underlying54 h1
  obtain ⟨f1, f2, f3, l2, rfl, hs2⟩ := trod_slice (enc := encI) (by omega) Tryz.underlying55 h2
  exact ⟨⟨l1, l2, a3, a4, ao1, cap1, ao2, cap2⟩, rfl, hs1, hs2⟩
end Go.Proofs.YtkpkebpofpcmaaaGreatDoor
