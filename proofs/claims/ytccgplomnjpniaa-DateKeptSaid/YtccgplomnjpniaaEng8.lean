/- The engine, part 8: drawn regions walked order by order; panics; deferred calls that recover. -/
import Derived.Test.YtccgplomnjpniaaEngAll
import Derived.RecoverIn
import Derived.WideLaws
namespace Go.Eng
open Go Go.RowKit
set_option linter.unusedVariables false
set_option linter.unusedSimpArgs false

section
variable (r : Option Nat) (P : Program) (Q : Exit → Act → World → Prop) (N : Nat) (D : List Deferred) (B : Nat) (w0 : World) (ops : Array Oper)
def TA (fuel : Nat) (listed : Array Bool) (L : Env) (H : Hp) : Prop := ∀ a w, Fr N D L a → SH B w0 w H → wpAnyIn (FW r) 0 P .any ops Q fuel listed a w
end
def AllR (p : Nat → Prop) : List Nat → Prop
  | [] => True
  | i :: is => p i ∧ AllR p is
theorem AllR.get {p : Nat → Prop} : ∀ {l : List Nat}, AllR p l → ∀ i ∈ l, p i := by
  intro l
  induction l with
  | nil => intro _ i hi; cases hi
  | cons j l ih =>
    intro h i hi
    rcases List.mem_cons.1 hi with rfl | hi
    · exact h.1
    · exact ih h.2 i hi

section
variable {r : Option Nat} {P : Program} {Q : Exit → Act → World → Prop} {N : Nat} {D : List Deferred} {B : Nat} {w0 : World} {L : Env} {H : Hp} {ops : Array Oper} {rest : List Oper}
/-- One operation, and then K. -/
def T1 (r : Option Nat) (P : Program) (Q : Exit → Act → World → Prop) (N : Nat) (D : List Deferred) (B : Nat) (w0 : World) (L : Env) (H : Hp) (ops : Array Oper) (K : Act → World → Prop) : Option Oper → Prop
  | some o => TL r P (Exit.then K Q) N D B w0 L H ops [o]
  | none => True
theorem wpIn_then {K K' : Act → World → Prop} {o : Oper} {a : Act} {w : World} (h : Oper.wpIn (FW r) 0 P o a w K' (Exit.then K Q)) : Oper.wpIn (FW r) 0 P o a w K' Q := by
  unfold Oper.wpIn at *
  refine ⟨h.1, ?_⟩
  have hh := h.2
  generalize (o.semAt (FW r).round a.eval).run P w = res at *
  cases res with
  | ok x w' =>
    cases x <;> simp only [Oper.uponIn] at hh ⊢ <;>
      first
        | exact hh
        | exact ⟨hh.1, CallsIn.mono hh.2 (fun e w'' he => by cases e <;> exact he)⟩
        | exact ⟨hh.1, RoundIn.mono hh.2 (fun e w'' he => by cases e <;> exact he)⟩
  | halt x w' => cases x <;> simp only [Oper.uponIn] at hh ⊢ <;> exact hh
theorem TA_step {fuel : Nat} {listed : Array Bool} (hne : (Region.ready .any ops listed).isEmpty = false)
    (h : AllR (fun i => T1 r P Q N D B w0 L H ops (wpAnyIn (FW r) 0 P .any ops Q fuel (listed.setIfInBounds i true)) ops[i]?) (Region.ready .any ops listed)) :
    TA r P Q N D B w0 ops (fuel + 1) listed L H := fun a w hf hs => by
  refine ⟨fun hnil => absurd hne (by rw [hnil]; simp), fun i hi => ?_⟩
  have h1 := h.get i hi
  unfold wpOpIn
  cases ho : ops[i]? with
  | none =>
    obtain ⟨_, o, ho', _⟩ := mem_ready.1 hi
    rw [ho] at ho'; cases ho'
  | some o =>
    rw [ho] at h1
    have h2 := h1 a w hf hs
    unfold wpListIn at h2
    simp only []
    split
    · rename_i hw
      rw [if_pos hw] at h2
      exact wpIn_then h2
    · rename_i hw
      rw [if_neg hw] at h2
      exact ⟨h2.1, h2.2⟩
theorem TQ_any {fuel : Nat} {listed : Array Bool} (h : TA r P Q N D B w0 ops fuel listed L H) : TQ (Exit.then (wpAnyIn (FW r) 0 P .any ops Q fuel listed) Q) N D B w0 L H .normal := h
/-- .. the ready ones named. -/
theorem TA_stepL {fuel : Nat} {listed : Array Bool} (rs : List Nat) (hr : Region.ready .any ops listed = rs) (hne : rs.isEmpty = false)
    (h : AllR (fun i => T1 r P Q N D B w0 L H ops (wpAnyIn (FW r) 0 P .any ops Q fuel (listed.setIfInBounds i true)) ops[i]?) rs) : TA r P Q N D B w0 ops (fuel + 1) listed L H :=
  TA_step (by rw [hr]; exact hne) (by rw [hr]; exact h)
theorem TA_done {fuel : Nat} {listed : Array Bool} (he : Region.ready .any ops listed = []) (h : TQ Q N D B w0 L H .normal) : TA r P Q N D B w0 ops fuel listed L H := fun a w hf hs => by
  cases fuel with
  | zero => exact ⟨he, h a w hf hs⟩
  | succ fuel => exact ⟨fun _ => h a w hf hs, fun i hi => by rw [he] at hi; cases hi⟩
theorem TC_any {id : Nat} (hm : P.follows .mixedOrders = true) (h : TA r P Q N D B w0 ops ops.size (Array.replicate ops.size false) L H) : TC r P Q N D B w0 L H (.region id ops true) := fun a w hf hs =>
  wpIn_region_any hm (h _ _ hf hs.drew)

/-! ### Panics -/
/-- It returns v, or panics with v; nothing that was there has turned. -/
def EndV (w0 : World) : Except Value Value → Ending → World → Prop
  | .ok v => RetV w0 v
  | .error v => fun e w => e = .panicked [{ v, recovered := false }] ∧ Below w0.heap.size w0 w
variable {d : Option Nat} {ty : TypeId} {pos : String} {aft : Array Edge}
theorem TL_callE {callee : Operand} {args : List Operand} {at_ : Array TypeId} {k : FuncId} {vs cl : List Value} {o : Except Value Value} (hx : ev L callee = some (.func (.func k) #[] cl.toArray)) (ha : evL L args = some vs) [hent : EntP P k] (hd : okD N d = true)
    (hc : ∀ w, SH B w0 w H → Calls P k (vs ++ cl).toArray w (EndV w o))
    (kk : ∀ v, o = .ok v → TL r P Q N D B w0 (putE L d v) H ops rest) (kp : ∀ v, o = .error v → TQ Q N D B w0 L H (.panic [{ v, recovered := false }])) :
    TL r P Q N D B w0 L H ops (⟨d, .call { callee := .value callee, args := args.toArray, argTypes := at_ }, ty, pos, aft, none⟩ :: rest) :=
  TL_run rfl (by simp) fun a w hf hs => by
    have h1 := run_call (ty := ty) (at_ := at_) hf hx ha (hent := hent) w
    simp only [execOp]
    rw [h1]
    refine ⟨fun h => by simp [FW] at h, (callsIn_of_calls (hc w hs)).mono ?_⟩
    intro e w' he
    cases o with
    | ok v =>
      obtain ⟨rfl, hb⟩ := he
      exact kk v rfl _ _ (hf.putE hd _) (hs.ext hb)
    | error v =>
      obtain ⟨rfl, hb⟩ := he
      exact kp v rfl _ _ hf (hs.ext hb)
theorem TL_panic {x : Operand} {v : Value} (hx : ev L x = some v) {t : TypeId} {u : Value} (he : v = .iface t u)
    (k : TQ Q N D B w0 L H (.panic [{ v, recovered := false }])) : TL r P Q N D B w0 L H ops (⟨none, .panic x, ty, pos, aft, none⟩ :: rest) :=
  TL_run rfl (by simp) fun a w hf hs => by
    subst he
    have e : (execOp a.eval ⟨none, .panic x, ty, pos, aft, none⟩).run P w = .halt (.panic (.iface t u)) w := by simp [execOp, hf.ev hx, Instr.panic, goPanic]
    rw [e]
    exact k _ _ hf hs
theorem TQ_then_panic {K : Act → World → Prop} {c : List PanicEntry} (h : TQ Q N D B w0 L H (.panic c)) : TQ (Exit.then K Q) N D B w0 L H (.panic c) := h
theorem TQ_block_panic {i : Nat} {c : List PanicEntry} (h : TQ Q N D B w0 L H (.panic c)) : TQ (Exit.inBlock i Q) N D B w0 L H (.panic c) := h
theorem TQ_panic {fn : Func} {R : Ending → World → Prop} {c : List PanicEntry} (hR : ∀ w, SH B w0 w H → R (.panicked c) w) : TQ (bodyPost P fn R) N [] B w0 L H (.panic c) :=
  fun _ w hf hs => ⟨hf.defers, hR w hs⟩
theorem TL_makeInterface {d : Nat} {t : TypeId} {x : Operand} {v : Value} (hd : Nat.blt d N = true) (hx : ev L x = some v) {fs : Array Field} (hu : P.underlying t = some (.struct fs))
    (k : TL r P Q N D B w0 ((d, .iface t v) :: L) H ops rest) : TL r P Q N D B w0 L H ops (⟨some d, .makeInterface t x, ty, pos, aft, none⟩ :: rest) :=
  TL_val (by simp) hd _ (fun a w hf _ => by simp [execOp, hf.ev hx, Instr.makeInterface, run_underlying hu]) k
end
end Go.Eng
