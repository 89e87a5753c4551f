/- The engine: slices by one bound. -/
import Derived.Test.YtkpkebpofpcmaaaGreatDoorEngW
namespace Go.Eng
open Go Go.RowKit
set_option linter.unusedVariables false

theorem Sl.drop {α : Type} {w : World} {k : Nat} {enc : α → List Value} {ao : Option Addr} {l : List α} (h : Sl w k enc ao l) (i c : Nat) (hc : l.length ≤ c) :
    Sl w k enc (if c = i then ao else ao.map (·.add (i * k))) (l.drop i) := by
  by_cases hd : l.drop i = []
  · rw [hd]; exact Sl.nil _ _ _ _
  · have hl : l ≠ [] := fun e => hd (by rw [e]; simp)
    have hi : i < l.length := by
      apply Classical.byContradiction
      intro hn
      exact hd (List.drop_eq_nil_of_le (by omega))
    obtain ⟨b, o, rfl⟩ := h.some_ hl
    rw [if_neg (by omega)]
    have e : Option.map (fun x : Addr => x.add (i * k)) (some (⟨b, o, none⟩ : Addr)) = some ⟨b, o + i * k, none⟩ := by simp [add_plain']
    rw [e]
    refine ⟨fun x hx => h.enc_len x (List.mem_of_mem_drop hx), fun _ => ⟨b, _, rfl⟩, fun j u hj f v hv => ?_⟩
    rw [List.getElem?_drop] at hj
    have := h.cell (i + j) u hj f v hv
    simp only [elA] at this ⊢
    rw [show o + i * k + (j * k + f) = o + ((i + j) * k + f) by rw [Nat.add_mul]; omega]
    exact this
section
variable {r : Option Nat} {P : Program} {Q : Exit → Act → World → Prop} {N : Nat} {D : List Deferred} {B : Nat} {w0 : World} {L : Env} {H : Hp} {ops : Array Oper} {rest : List Oper}
variable {d : Nat} {ty : TypeId} {pos : String} {aft : Array Edge}
theorem TL_hp {H' : Hp} (hp : H'.Perm H) (h : TL r P Q N D B w0 L H' ops rest) : TL r P Q N D B w0 L H ops rest := TL.weaken (Sub.refl _) (fun w hs => hs.perm hp) h
theorem TC_hp {c : Code} {H' : Hp} (hp : H'.Perm H) (h : TC r P Q N D B w0 L H' c) : TC r P Q N D B w0 L H c := TC.weaken (Sub.refl _) (fun w hs => hs.perm hp) h
theorem TL_sliceTo {t e : TypeId} {x y2 : Operand} {sz : Nat} {ag : Bool} {z : List Value} {ao : Option Addr} {n c : Nat} {k2 : IntKind} {m2 : Int} (j : Nat) (hd : Nat.blt d N = true) [hu : SlcP P t e] [he : TyP P e sz ag z]
    (hx : ev L x = some (.slice ao n c)) (h2 : ev L y2 = some (.int k2 m2)) (e2 : m2 = (j : Int)) (hjc : j ≤ c)
    (k : TL r P Q N D B w0 ((d, .slice (if c = 0 then ao else ao.map (·.add 0)) j c) :: L) H ops rest) : TL r P Q N D B w0 L H ops (⟨some d, .slice t x none (some y2) none, ty, pos, aft, none⟩ :: rest) :=
  TL_val (by simp) hd _ (fun a w hf _ => by
    obtain ⟨q, _, hj, hsz, _, _⟩ := he.info
    have g1 : (Go.sizeOf e).run P w = .ok sz w := by rw [run_sizeOf w hj]; simp [Program.cellsOf, hj, hsz]
    have s2 := fun cd => sliceBound_run (P := P) (code := cd) (kd := k2) e2 hjc w
    simp [execOp, hf.ev hx, hf.ev h2, Instr.sliceAt, Instr.slice, run_underlying hu.u, Instr.sliceBounds, g1, s2]) k
theorem TL_sliceFrom {t e : TypeId} {x y1 : Operand} {sz : Nat} {ag : Bool} {z : List Value} {ao : Option Addr} {n c : Nat} {k1 : IntKind} {m1 : Int} (i : Nat) (hd : Nat.blt d N = true) [hu : SlcP P t e] [he : TyP P e sz ag z]
    (hx : ev L x = some (.slice ao n c)) (h1 : ev L y1 = some (.int k1 m1)) (e1 : m1 = (i : Int)) (hin : i ≤ n)
    (k : TL r P Q N D B w0 ((d, .slice (if c = i then ao else ao.map (·.add (i * sz))) (n - i) (c - i)) :: L) H ops rest) : TL r P Q N D B w0 L H ops (⟨some d, .slice t x (some y1) none none, ty, pos, aft, none⟩ :: rest) :=
  TL_val (by simp) hd _ (fun a w hf _ => by
    obtain ⟨q, _, hj, hsz, _, _⟩ := he.info
    have g1 : (Go.sizeOf e).run P w = .ok sz w := by rw [run_sizeOf w hj]; simp [Program.cellsOf, hj, hsz]
    have s2 := fun cd => sliceBound_run (P := P) (code := cd) (kd := k1) e1 hin w
    simp [execOp, hf.ev hx, hf.ev h1, Instr.sliceAt, Instr.slice, run_underlying hu.u, Instr.sliceBounds, g1, s2]) k
end
end Go.Eng
