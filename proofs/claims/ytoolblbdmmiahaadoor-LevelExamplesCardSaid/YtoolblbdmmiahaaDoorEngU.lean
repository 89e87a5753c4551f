/- The engine: scopes of labels; maps from numbers to truths. -/
import Derived.Test.YtoolblbdmmiahaaDoorEngT
import Derived.Scope
namespace Go.Eng
open Go Go.RowKit
set_option linter.unusedVariables false

theorem stepR_scope' {P : Program} {b : Frame} {a : Act} {k : List Item} {cs : List Frame} {w : World} {c : Code} : step P (lone (b.atR a (.code (.scope c) :: k)) cs w) = .next (lone (b.atR a (.code c :: .inScope c :: k)) cs w) :=
  step_lone_go (by simp [stepG, stepG.exec, Frame.atR])
theorem stepR_inScope' {P : Program} {b : Frame} {a : Act} {k : List Item} {cs : List Frame} {w : World} {c : Code} : step P (lone (b.atR a (.inScope c :: k)) cs w) = .next (lone (b.atR a k) cs w) :=
  step_lone_go (by simp [stepG, stepG.exec, Frame.atR])
theorem wpIn_scope' {F : Fence} {n : Nat} {P : Program} {Q : Exit → Act → World → Prop} {a : Act} {w : World} {c : Code} (h : c.wpIn F n P (Exit.noGoto Q) a w) : (Code.scope c).wpIn F n P Q a w := by
  intro b k cs hro hb hr
  have h0 : (lone (b.atR a (.code (.scope c) :: k)) cs w).fenced P F := fenced_calm hb hr rfl
  obtain ⟨e, a₁, w₁, hq, harr⟩ := h b (.inScope c :: k) cs hro hb hr
  cases e with
  | normal => exact ⟨.normal, a₁, w₁, hq, .head h0 stepR_scope' (StepsIn.trans harr (.one (fenced_calm hb hr rfl) stepR_inScope'))⟩
  | exit id' =>
    have hx : exitTo id' (.inScope c :: k) = exitTo id' k := by simp [exitTo]
    exact ⟨.exit id', a₁, w₁, hq, fun k' hk => .head h0 stepR_scope' (harr.1 k' (by rw [hx]; exact hk)),
      fun hr' hk => let ⟨k₁, h1, h2⟩ := harr.2 hr' (by rw [hx]; exact hk); ⟨k₁, h1, .head h0 stepR_scope' h2⟩⟩
  | goto l => exact hq.elim
  | ret => exact ⟨_, a₁, w₁, hq, .of_steps (.one h0 stepR_scope') harr⟩
  | panic ch => exact ⟨_, a₁, w₁, hq, .of_steps (.one h0 stepR_scope') harr⟩
  | outgrown => exact ⟨_, a₁, w₁, hq, .of_steps (.one h0 stepR_scope') harr⟩
section
variable {r : Option Nat} {P : Program} {Q : Exit → Act → World → Prop} {N : Nat} {D : List Deferred} {B : Nat} {w0 : World} {L : Env} {H : Hp} {ops : Array Oper} {rest : List Oper}
variable {d : Nat} {ty : TypeId} {pos : String} {aft : Array Edge}
theorem TC_scope {c : Code} (h : TC r P (Exit.noGoto Q) N D B w0 L H c) : TC r P Q N D B w0 L H (.scope c) := fun a w hf hs => wpIn_scope' (h a w hf hs)
theorem TQ_scope_n (h : TQ Q N D B w0 L H .normal) : TQ (Exit.noGoto Q) N D B w0 L H .normal := h
theorem TQ_scope_ret (h : TQ Q N D B w0 L H .ret) : TQ (Exit.noGoto Q) N D B w0 L H .ret := h
theorem TQ_scope_exit {i : Nat} (h : TQ Q N D B w0 L H (.exit i)) : TQ (Exit.noGoto Q) N D B w0 L H (.exit i) := h

/-- A map (or none) in which i is true exactly where o says so. -/
def OutH (mo : Option Nat) (o : Nat → Bool) (h : Hp) : Prop :=
  (mo = none ∧ h = [] ∧ ∀ i, o i = false) ∨ ∃ m es clk, ∃ f : Int → Option Value, mo = some m ∧ h = [(m, .obj (.map es clk))] ∧ MR .i64 es.toList f ∧ ∀ i : Nat, f (i : Int) = if o i = true then some (.bool true) else none
theorem TL_lookupO {t e kt : TypeId} {x y : Operand} [hm : MapP P t kt e] [hk : IntP P kt .i64] {mo : Option Nat} {o : Nat → Bool} {h : Hp} {m : Int} (i : Nat) (hd : Nat.blt d N = true)
    (hx : ev L x = some (.map mo)) (hy : ev L y = some (.int .i64 m)) (hi : m = (i : Int)) (ho : OutH mo o h) (hh : ∀ p ∈ h, p ∈ H) (hze : ∀ w, (zeroValue e).run P w = .ok (.bool false) w)
    (k : TL r P Q N D B w0 ((d, .bool (o i)) :: L) H ops rest) : TL r P Q N D B w0 L H ops (⟨some d, .lookup t x y false, ty, pos, aft, none⟩ :: rest) := by
  subst hi
  rcases ho with ⟨rfl, rfl, hf⟩ | ⟨b, es, clk, f, rfl, rfl, hr, hf⟩
  · refine TL_lookup_nil hd hx hy hze ?_
    rw [← hf i]; exact k
  · refine TL_lookup (v := .bool (o i)) (z := .bool false) hd hx hy (hh _ List.mem_cons_self) hr hze ?_ k
    rw [hf]
    cases ho : o i <;> simp
end
theorem encT_zero (c n : Nat) : List.replicate n (Value.int .i64 0) = encT c n (fun _ _ => 0) := by
  unfold encT
  apply List.ext_getElem?
  intro i
  rw [List.getElem?_map]
  by_cases h : i < n
  · rw [List.getElem?_range h]; simp [List.getElem?_replicate, h]
  · rw [List.getElem?_eq_none (by simpa using h), List.getElem?_eq_none (by simpa using h)]; rfl
theorem encT_congr {c n : Nat} {T T' : Tbl} (hc : 0 < c) (h : ∀ a b, a * c + b < n → b < c → T a b = T' a b) : encT c n T = encT c n T' := by
  unfold encT
  apply List.map_congr_left
  intro j hj
  rw [List.mem_range] at hj
  have h1 : j % c < c := Nat.mod_lt _ hc
  have h2 : j / c * c + j % c = j := by rw [Nat.mul_comm]; exact Nat.div_add_mod j c
  rw [h (j / c) (j % c) (by omega) h1]
end Go.Eng
