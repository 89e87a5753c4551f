/- The engine, part 8: drawn regions walked order by order; panics; deferred calls that recover. -/
import Derived.Test.YtkpkebpofpcmaaaGreatDoorEngA
import Derived.RecoverIn
import Derived.WideLaws
import Derived.Laws.Bits64
import Derived.RangeFuncLeaves
import Derived.RangeFuncRecord
import Derived.RangeFuncIn
namespace Go.Eng
open Go Go.RowKit
set_option linter.unusedVariables false
set_option linter.unusedSimpArgs false

section
variable (r : Option Nat) (P : Program) (Q : Exit → Act → World → Prop) (N : Nat) (D : List Deferred) (B : Nat) (w0 : World) (ops : Array Oper)
def TA (fuel : Nat) (listed : Array Bool) (L : Env) (H : Hp) : Prop := ∀ a w, Fr N D L a → SH B w0 w H → wpAnyIn (FW r) 0 P .any ops Q fuel listed a w
end
def AllR (p : Nat → Prop) : List Nat → Prop
  | [] => True
  | i :: is => p i ∧ AllR p is
theorem AllR.get {p : Nat → Prop} : ∀ {l : List Nat}, AllR p l → ∀ i ∈ l, p i := by
  intro l
  induction l with
  | nil => intro _ i hi; cases hi
  | cons j l ih =>
    intro h i hi
    rcases List.mem_cons.1 hi with rfl | hi
    · exact h.1
    · exact ih h.2 i hi

section
variable {r : Option Nat} {P : Program} {Q : Exit → Act → World → Prop} {N : Nat} {D : List Deferred} {B : Nat} {w0 : World} {L : Env} {H : Hp} {ops : Array Oper} {rest : List Oper}
/-- One operation, and then K. -/
def T1 (r : Option Nat) (P : Program) (Q : Exit → Act → World → Prop) (N : Nat) (D : List Deferred) (B : Nat) (w0 : World) (L : Env) (H : Hp) (ops : Array Oper) (K : Act → World → Prop) : Option Oper → Prop
  | some o => TL r P (Exit.then K Q) N D B w0 L H ops [o]
  | none => True
theorem wpIn_then {K K' : Act → World → Prop} {o : Oper} {a : Act} {w : World} (h : Oper.wpIn (FW r) 0 P o a w K' (Exit.then K Q)) : Oper.wpIn (FW r) 0 P o a w K' Q := by
  unfold Oper.wpIn at *
  refine ⟨h.1, ?_⟩
  have hh := h.2
  generalize (o.semAt (FW r).round a.eval).run P w = res at *
  cases res with
  | ok x w' =>
    cases x <;> simp only [Oper.uponIn] at hh ⊢ <;>
      first
        | exact hh
        | exact ⟨hh.1, CallsIn.mono hh.2 (fun e w'' he => by cases e <;> exact he)⟩
        | exact ⟨hh.1, RoundIn.mono hh.2 (fun e w'' he => by cases e <;> exact he)⟩
  | halt x w' => cases x <;> simp only [Oper.uponIn] at hh ⊢ <;> exact hh
theorem TA_step {fuel : Nat} {listed : Array Bool} (hne : (Region.ready .any ops listed).isEmpty = false)
    (h : AllR (fun i => T1 r P Q N D B w0 L H ops (wpAnyIn (FW r) 0 P .any ops Q fuel (listed.setIfInBounds i true)) ops[i]?) (Region.ready .any ops listed)) :
    TA r P Q N D B w0 ops (fuel + 1) listed L H := fun a w hf hs => by
  refine ⟨fun hnil => absurd hne (by rw [hnil]; simp), fun i hi => ?_⟩
  have h1 := h.get i hi
  unfold wpOpIn
  cases ho : ops[i]? with
  | none =>
    obtain ⟨_, o, ho', _⟩ := mem_ready.1 hi
    rw [ho] at ho'; cases ho'
  | some o =>
    rw [ho] at h1
    have h2 := h1 a w hf hs
    unfold wpListIn at h2
    simp only []
    split
    · rename_i hw
      rw [if_pos hw] at h2
      exact wpIn_then h2
    · rename_i hw
      rw [if_neg hw] at h2
      exact ⟨h2.1, h2.2⟩
theorem TQ_any {fuel : Nat} {listed : Array Bool} (h : TA r P Q N D B w0 ops fuel listed L H) : TQ (Exit.then (wpAnyIn (FW r) 0 P .any ops Q fuel listed) Q) N D B w0 L H .normal := h
/-- .. the ready ones named. -/
theorem TA_stepL {fuel : Nat} {listed : Array Bool} (rs : List Nat) (hr : Region.ready .any ops listed = rs) (hne : rs.isEmpty = false)
    (h : AllR (fun i => T1 r P Q N D B w0 L H ops (wpAnyIn (FW r) 0 P .any ops Q fuel (listed.setIfInBounds i true)) ops[i]?) rs) : TA r P Q N D B w0 ops (fuel + 1) listed L H :=
  TA_step (by rw [hr]; exact hne) (by rw [hr]; exact h)
theorem TA_done {fuel : Nat} {listed : Array Bool} (he : Region.ready .any ops listed = []) (h : TQ Q N D B w0 L H .normal) : TA r P Q N D B w0 ops fuel listed L H := fun a w hf hs => by
  cases fuel with
  | zero => exact ⟨he, h a w hf hs⟩
  | succ fuel => exact ⟨fun _ => h a w hf hs, fun i hi => by rw [he] at hi; cases hi⟩
theorem TC_any {id : Nat} (hm : P.follows .mixedOrders = true) (h : TA r P Q N D B w0 ops ops.size (Array.replicate ops.size false) L H) : TC r P Q N D B w0 L H (.region id ops true) := fun a w hf hs =>
  wpIn_region_any hm (h _ _ hf hs.drew)

/-! ### Panics -/
/-- It returns v, or panics with v; nothing that was there has turned. -/
def EndV (w0 : World) : Except Value Value → Ending → World → Prop
  | .ok v => RetV w0 v
  | .error v => fun e w => e = .panicked [{ v, recovered := false }] ∧ Below w0.heap.size w0 w
variable {d : Option Nat} {ty : TypeId} {pos : String} {aft : Array Edge}
theorem TL_callE {callee : Operand} {args : List Operand} {at_ : Array TypeId} {k : FuncId} {vs cl : List Value} {o : Except Value Value} (hx : ev L callee = some (.func (.func k) #[] cl.toArray)) (ha : evL L args = some vs) [hent : EntP P k] (hd : okD N d = true)
    (hc : ∀ w, SH B w0 w H → Calls P k (vs ++ cl).toArray w (EndV w o))
    (kk : ∀ v, o = .ok v → TL r P Q N D B w0 (putE L d v) H ops rest) (kp : ∀ v, o = .error v → TQ Q N D B w0 L H (.panic [{ v, recovered := false }])) :
    TL r P Q N D B w0 L H ops (⟨d, .call { callee := .value callee, args := args.toArray, argTypes := at_ }, ty, pos, aft, none⟩ :: rest) :=
  TL_run rfl (by simp) fun a w hf hs => by
    have h1 := run_call (ty := ty) (at_ := at_) hf hx ha (hent := hent) w
    simp only [execOp]
    rw [h1]
    refine ⟨fun h => by simp [FW] at h, (callsIn_of_calls (hc w hs)).mono ?_⟩
    intro e w' he
    cases o with
    | ok v =>
      obtain ⟨rfl, hb⟩ := he
      exact kk v rfl _ _ (hf.putE hd _) (hs.ext hb)
    | error v =>
      obtain ⟨rfl, hb⟩ := he
      exact kp v rfl _ _ hf (hs.ext hb)
theorem TL_panic {x : Operand} {v : Value} (hx : ev L x = some v) {t : TypeId} {u : Value} (he : v = .iface t u)
    (k : TQ Q N D B w0 L H (.panic [{ v, recovered := false }])) : TL r P Q N D B w0 L H ops (⟨none, .panic x, ty, pos, aft, none⟩ :: rest) :=
  TL_run rfl (by simp) fun a w hf hs => by
    subst he
    have e : (execOp a.eval ⟨none, .panic x, ty, pos, aft, none⟩).run P w = .halt (.panic (.iface t u)) w := by simp [execOp, hf.ev hx, Instr.panic, goPanic]
    rw [e]
    exact k _ _ hf hs
theorem TQ_then_panic {K : Act → World → Prop} {c : List PanicEntry} (h : TQ Q N D B w0 L H (.panic c)) : TQ (Exit.then K Q) N D B w0 L H (.panic c) := h
theorem TQ_panic {fn : Func} {R : Ending → World → Prop} {c : List PanicEntry} (hR : ∀ w, SH B w0 w H → R (.panicked c) w) : TQ (bodyPost P fn R) N [] B w0 L H (.panic c) :=
  fun _ w hf hs => ⟨hf.defers, hR w hs⟩
end
end Go.Eng
/- The engine, part 9: functions that defer, deferred calls that recover. -/
namespace Go.Eng
open Go Go.RowKit

section
variable {P : Program} {Q : Exit → Act → World → Prop} {N : Nat} {D : List Deferred} {B : Nat} {w0 : World} {L : Env} {H : Hp} {ops : Array Oper} {rest : List Oper}

theorem enterD {f : FuncId} {fn : Func} {c : Code} {args : List Value} {w : World} {R : Ending → World → Prop} (hf : P.funcs[f]? = some fn) (hb : fn.body = some c) (hN : fn.ntmps = N) (hle : Nat.ble args.length N = true)
    (hS : SH B w0 w H) (h : TC none P (bodyPostDIn (FW none) 0 P fn R) N [] B w0 (envOf 0 args) H c) : Calls P f args.toArray w R := by
  refine (callsIn_wide (n := 0)).1 (callsIn_of_wp_defers hf hb trivial (h _ w ⟨?_, rfl, fun k v hk => ?_⟩ hS))
  · have : args.length ≤ N := by simpa using hle
    simp [hN]; omega
  · have h1 := (lk_envOf args 0 k v hk).2
    simp only [Nat.sub_zero] at h1
    have h2 := (List.getElem?_eq_some_iff.1 h1).1
    rw [Array.getElem?_append_left (by simpa using h2)]
    simpa using h1

def dfr (k : FuncId) (cl : List Value) : Deferred := { target := .fn (.func k) cl.toArray, args := #[] }
theorem TL_defer {x : Operand} {k : FuncId} {cl : List Value} {at_ : Array TypeId} {ty : TypeId} {pos : String} {aft : Array Edge} (hx : ev L x = some (.func (.func k) #[] cl.toArray))
    (kk : TL none P Q N (dfr k cl :: D) B w0 L H ops rest) : TL none P Q N D B w0 L H ops (⟨none, .defer { callee := .value x, args := #[], argTypes := at_ }, ty, pos, aft, none⟩ :: rest) := by
  intro a w hf hs
  unfold wpListIn
  rw [if_pos (by simp [Region.wanted])]
  refine ⟨fun _ _ => trivial, ?_⟩
  have e : (Oper.semAt (FW none).round a.eval ⟨none, .defer { callee := .value x, args := #[], argTypes := at_ }, ty, pos, aft, none⟩).run P w = .ok (.defer (dfr k cl)) w := by
    show (Oper.semAt none _ _).run P w = _
    rw [Oper.semAt_none]
    simp [execOp, resolve, hf.ev hx, Deferred.ofValue, dfr]
  rw [e]
  exact kk _ _ ⟨hf.size, by simp [Act.put, hf.defers], hf.get⟩ hs

/-- A deferred function that begins with 'x := recover()'. -/
theorem enterRec {f : FuncId} {fn : Func} {c : Code} {id d1 d2 : Nat} {t1 t2 : TypeId} {p1 p2 : String} {a1 a2 : Array Edge} {args : List Value} {u u' : FrameMode} {v : Value} {w : World} {R : Ending → FrameMode → World → Prop}
    (hf : P.funcs[f]? = some fn) (hb : fn.body = some (.seq (.region id #[⟨some d1, .call { callee := .builtin .recover, args := #[], argTypes := #[] }, t1, p1, a1, none⟩, ⟨some d2, .assign (.tmp d1), t2, p2, a2, none⟩] false) c)) (hN : fn.ntmps = N) (hle : Nat.ble args.length N = true)
    (hd1 : Nat.blt d1 N = true) (hd2 : Nat.blt d2 N = true)
    (hu : (u = .returning ∧ u' = .returning ∧ v = .nilIface) ∨ (u = .panicking [{ v, recovered := false }] ∧ u' = .panicking [{ v, recovered := true }]))
    (hS : SH B w0 w H) (h : TC none P (bodyPost P fn fun e w => R e u' w) N [] B w0 ((d2, v) :: (d1, v) :: envOf 0 args) H c) : CallsDIn (FW none) 0 P f args.toArray u w R := by
  refine callsDIn_of_wpSIn hf hb trivial fun c₀ cs hm => ?_
  have hrec : (recoverD (c₀ :: cs) = none ∧ v = .nilIface ∧ c₀ = { c₀ with mode := u' }) ∨ recoverD (c₀ :: cs) = some (v, { c₀ with mode := u' } :: cs) := by
    rcases hu with ⟨rfl, rfl, rfl⟩ | ⟨rfl, rfl⟩
    · exact .inl ⟨by simp [recoverD, hm], rfl, by rw [← hm]⟩
    · exact .inr (by simp [recoverD, hm])
  have hF0 : Fr N [] (envOf 0 args) { tmps := args.toArray ++ Array.replicate (fn.ntmps - args.toArray.size) undef, defers := [] } := by
    refine ⟨?_, rfl, fun k v hk => ?_⟩
    · have : args.length ≤ N := by simpa using hle
      simp [hN]; omega
    · have h1 := (lk_envOf args 0 k v hk).2
      simp only [Nat.sub_zero] at h1
      have h2 := (List.getElem?_eq_some_iff.1 h1).1
      rw [Array.getElem?_append_left (by simpa using h2)]
      simpa using h1
  have fin : ∀ a w, Fr N [] ((d2, v) :: (d1, v) :: envOf 0 args) a → SH B w0 w H → c.wpSIn (FW none) 0 P (bodyPostS P fn c₀ cs R) a ({ c₀ with mode := u' } :: cs) w := fun a w hfa hsw => by
    refine wpSIn_of_wpIn rfl (wpIn_mono (h a w hfa hsw) fun e a' w' hq => ?_)
    cases e with
    | normal => obtain ⟨hd, x, hr, hR⟩ := hq; exact ⟨hd, u', rfl, x, hr, hR⟩
    | ret => obtain ⟨hd, x, hr, hR⟩ := hq; exact ⟨hd, u', rfl, x, hr, hR⟩
    | panic ch => exact ⟨hq.1, u', rfl, hq.2⟩
    | exit i => exact hq.elim
    | goto l => exact hq.elim
    | outgrown => exact ⟨u', hq⟩
  refine wpSIn_seq (wpSIn_region ?_)
  have hrun : ∀ (a : Act), (execOp a.eval ⟨some d1, .call { callee := .builtin .recover, args := #[], argTypes := #[] }, t1, p1, a1, none⟩).run P w = .ok .recover w := fun a => by
    simp [execOp, resolve, invoke, Go.builtin]
  have hF1 := (hF0.put hd1 v).put hd2 v
  have hev : ∀ (a : Act), Fr N [] ((d1, v) :: envOf 0 args) a → a.eval (.tmp d1) = v := fun a ha => ha.ev (by simp [Eng.ev, lk_cons_same])
  have hrun2 : ∀ (a : Act), Fr N [] ((d1, v) :: envOf 0 args) a → (execOp a.eval ⟨some d2, .assign (.tmp d1), t2, p2, a2, none⟩).run P w = .ok (.value v) w := fun a ha => by
    have := hev a ha
    simp [execOp, this]
  have hl2 : List.range 2 = [0, 1] := rfl
  show wpOpsSIn _ _ _ _ _ (List.range 2) _ _ _
  rw [hl2]
  generalize hops : #[(⟨some d1, .call { callee := .builtin .recover, args := #[], argTypes := #[] }, t1, p1, a1, none⟩ : Oper), ⟨some d2, .assign (.tmp d1), t2, p2, a2, none⟩] = ops
  have g0 : ops[0]? = some ⟨some d1, .call { callee := .builtin .recover, args := #[], argTypes := #[] }, t1, p1, a1, none⟩ := by subst hops; rfl
  have g1 : ops[1]? = some ⟨some d2, .assign (.tmp d1), t2, p2, a2, none⟩ := by subst hops; rfl
  have second : ∀ (a : Act) (cs' : List Frame), Fr N [] ((d1, v) :: envOf 0 args) a → (∀ a, Fr N [] ((d2, v) :: (d1, v) :: envOf 0 args) a → c.wpSIn (FW none) 0 P (bodyPostS P fn c₀ cs R) a cs' w) →
      wpOpsSIn (FW none) 0 P ops (Exit.thenS (c.wpSIn (FW none) 0 P (bodyPostS P fn c₀ cs R)) (bodyPostS P fn c₀ cs R)) [1] a cs' w := fun a cs' ha hk => by
    simp only [wpOpsSIn, g1]
    refine ⟨fun _ _ => trivial, ?_⟩
    rw [if_pos (by simp [Region.wanted]), hrun2 a ha]
    exact hk _ (ha.put hd2 v)
  rw [wpOpsSIn.eq_2]
  simp only [g0]
  refine ⟨fun _ _ => trivial, ?_⟩
  rw [if_pos (by simp [Region.wanted]), hrun]
  rcases hrec with ⟨hn, hv, hc0⟩ | hsome
  · simp only [hn]
    rw [← hv]
    refine second _ _ (hF0.put hd1 v) (fun a ha => ?_)
    have := fin a w ha hS
    rw [← hc0] at this
    exact this
  · simp only [hsome]
    exact second _ _ (hF0.put hd1 v) (fun a ha => fin a w ha hS)

section
variable {r : Option Nat} {d : Nat} {ty : TypeId} {pos : String} {aft : Array Edge}
theorem TL_neq_held {t t' tt : TypeId} {x : Operand} {u : Value} (hd : Nat.blt d N = true) (hu : P.underlying t = some (.interface (P.methodsAt t))) (hx : ev L x = some (.iface tt u))
    (k : TL r P Q N D B w0 ((d, .bool true) :: L) H ops rest) : TL r P Q N D B w0 L H ops (⟨some d, .binOp .neq t x (.const .nilIface) t', ty, pos, aft, none⟩ :: rest) :=
  TL_val (by simp) hd _ (fun a w hf _ => by
    have h := run_equal_held_nil (P := P) w t tt u hu
    have hc : a.eval (.const .nilIface) = .nilIface := rfl
    simp [execOp, hf.ev hx, hc, eqGuard, binOp, h]) k
theorem TL_neq_nilnil {t t' : TypeId} {x : Operand} (hd : Nat.blt d N = true) (hu : P.underlying t = some (.interface (P.methodsAt t))) (hx : ev L x = some .nilIface)
    (k : TL r P Q N D B w0 ((d, .bool false) :: L) H ops rest) : TL r P Q N D B w0 L H ops (⟨some d, .binOp .neq t x (.const .nilIface) t', ty, pos, aft, none⟩ :: rest) :=
  TL_val (by simp) hd _ (fun a w hf _ => by
    have h := run_equal_nil_nil (P := P) w t hu
    have hc : a.eval (.const .nilIface) = .nilIface := rfl
    simp [execOp, hf.ev hx, hc, eqGuard, binOp, h]) k
end
end
end Go.Eng
/- The engine, part 10: arrays, and slices of arrays and of slices. -/
namespace Go.Eng
open Go Go.RowKit
set_option linter.unusedVariables false
set_option linter.unusedSimpArgs false

/-- Type t is an array of n of e. -/
class AryP (P : Program) (t : TypeId) (n : outParam Nat) (e : outParam TypeId) : Prop where
  u : P.underlying t = some (.array n e)

section
variable {r : Option Nat} {P : Program} {Q : Exit → Act → World → Prop} {N : Nat} {D : List Deferred} {B : Nat} {w0 : World} {L : Env} {H : Hp} {ops : Array Oper} {rest : List Oper}
variable {d : Nat} {ty : TypeId} {pos : String} {aft : Array Edge}

/-- The address of element i of an array. -/
theorem TL_indexAddrA {t e : TypeId} {x y : Operand} {n sz : Nat} {ag : Bool} {z : List Value} {b o : Nat} {kd : IntKind} {m : Int} (i : Nat) (hd : Nat.blt d N = true) [hu : AryP P t n e] [he : TyP P e sz ag z]
    (hx : ev L x = some (.pointer (some ⟨b, o, none⟩))) (hy : ev L y = some (.int kd m)) (hm : m = (i : Int)) (hi : i < n)
    (k : TL r P Q N D B w0 ((d, .pointer (some ⟨b, o + i * sz, none⟩)) :: L) H ops rest) : TL r P Q N D B w0 L H ops (⟨some d, .indexAddr t x y, ty, pos, aft, none⟩ :: rest) :=
  TL_val (by simp) hd _ (fun a w hf _ => by
    obtain ⟨j, _, hj, hsz, _, _⟩ := he.info
    subst hm
    simp [execOp, hf.ev hx, hf.ev hy, Instr.indexAt, run_underlying hu.u, asIntOf, sizeOf, typeInfo, hj, hsz, add_plain', Instr.sureAddr, hi]) k
end
section
variable {r : Option Nat} {P : Program} {Q : Exit → Act → World → Prop} {N : Nat} {D : List Deferred} {B : Nat} {w0 : World} {L : Env} {H : Hp} {ops : Array Oper} {rest : List Oper}
variable {d : Nat} {ty : TypeId} {pos : String} {aft : Array Edge}
/-- Half a number that is not below 0. -/
theorem TL_half {t t' : TypeId} {kd k2 : IntKind} {x y : Operand} {m : Int} (hd : Nat.blt d N = true) (hx : ev L x = some (.int kd m)) (hy : ev L y = some (.int k2 1)) (hk : Nat.blt 0 kd.bits = true) (hm : 0 ≤ m)
    (k : TL r P Q N D B w0 ((d, .int kd (m / 2)) :: L) H ops rest) : TL r P Q N D B w0 L H ops (⟨some d, .binOp .shr t x y t', ty, pos, aft, none⟩ :: rest) :=
  TL_val (by simp) hd _ (fun a w hf _ => by
    have h1 : min 1 kd.bits = 1 := by have : 0 < kd.bits := by simpa [Nat.blt_eq] using hk
                                      omega
    have h2 : m.fdiv 2 = m / 2 := Int.fdiv_eq_ediv_of_nonneg m (by omega)
    simp [execOp, hf.ev hx, hf.ev hy, eqGuard, binOp, Op.shift, h1, h2]) k
theorem TL_conv_same {s e : TypeId} {x : Operand} {k1 k2 : IntKind} {n : Int} (hd : Nat.blt d N = true) [hs : IntP P s k1] [he : IntP P e k2] (hx : ev L x = some (.int k1 n)) (hw : k2.wrap n = n)
    (k : TL r P Q N D B w0 ((d, .int k2 n) :: L) H ops rest) : TL r P Q N D B w0 L H ops (⟨some d, .convert s e x, ty, pos, aft, none⟩ :: rest) :=
  TL_convert hd hx (by rw [hw]; exact k)
/-- Orders that are known. -/
theorem TL_gtr_t {t t' : TypeId} {kd : IntKind} {x y : Operand} {m n : Int} (hd : Nat.blt d N = true) (hx : ev L x = some (.int kd m)) (hy : ev L y = some (.int kd n)) (h : n < m)
    (k : TL r P Q N D B w0 ((d, .bool true) :: L) H ops rest) : TL r P Q N D B w0 L H ops (⟨some d, .binOp .gtr t x y t', ty, pos, aft, none⟩ :: rest) :=
  TL_gtr hd hx hy (by rw [decide_eq_true h]; exact k)
theorem TL_gtr_f {t t' : TypeId} {kd : IntKind} {x y : Operand} {m n : Int} (hd : Nat.blt d N = true) (hx : ev L x = some (.int kd m)) (hy : ev L y = some (.int kd n)) (h : ¬ n < m)
    (k : TL r P Q N D B w0 ((d, .bool false) :: L) H ops rest) : TL r P Q N D B w0 L H ops (⟨some d, .binOp .gtr t x y t', ty, pos, aft, none⟩ :: rest) :=
  TL_gtr hd hx hy (by rw [decide_eq_false h]; exact k)
theorem TL_lss_t {t t' : TypeId} {kd : IntKind} {x y : Operand} {m n : Int} (hd : Nat.blt d N = true) (hx : ev L x = some (.int kd m)) (hy : ev L y = some (.int kd n)) (h : m < n)
    (k : TL r P Q N D B w0 ((d, .bool true) :: L) H ops rest) : TL r P Q N D B w0 L H ops (⟨some d, .binOp .lss t x y t', ty, pos, aft, none⟩ :: rest) :=
  TL_lss hd hx hy (by rw [decide_eq_true h]; exact k)
theorem TL_lss_f {t t' : TypeId} {kd : IntKind} {x y : Operand} {m n : Int} (hd : Nat.blt d N = true) (hx : ev L x = some (.int kd m)) (hy : ev L y = some (.int kd n)) (h : ¬ m < n)
    (k : TL r P Q N D B w0 ((d, .bool false) :: L) H ops rest) : TL r P Q N D B w0 L H ops (⟨some d, .binOp .lss t x y t', ty, pos, aft, none⟩ :: rest) :=
  TL_lss hd hx hy (by rw [decide_eq_false h]; exact k)
theorem TL_leq_f {t t' : TypeId} {kd : IntKind} {x y : Operand} {m n : Int} (hd : Nat.blt d N = true) (hx : ev L x = some (.int kd m)) (hy : ev L y = some (.int kd n)) (h : ¬ m ≤ n)
    (k : TL r P Q N D B w0 ((d, .bool false) :: L) H ops rest) : TL r P Q N D B w0 L H ops (⟨some d, .binOp .leq t x y t', ty, pos, aft, none⟩ :: rest) :=
  TL_leq hd hx hy (by rw [decide_eq_false h]; exact k)
theorem TL_neq_t {t t' : TypeId} {kd : IntKind} {x y : Operand} {m n : Int} (hd : Nat.blt d N = true) (hx : ev L x = some (.int kd m)) (hy : ev L y = some (.int kd n)) (h : m ≠ n)
    (k : TL r P Q N D B w0 ((d, .bool true) :: L) H ops rest) : TL r P Q N D B w0 L H ops (⟨some d, .binOp .neq t x y t', ty, pos, aft, none⟩ :: rest) :=
  TL_neq hd hx hy (by rw [decide_eq_true h]; exact k)
theorem TL_neq_f {t t' : TypeId} {kd : IntKind} {x y : Operand} {m n : Int} (hd : Nat.blt d N = true) (hx : ev L x = some (.int kd m)) (hy : ev L y = some (.int kd n)) (h : m = n)
    (k : TL r P Q N D B w0 ((d, .bool false) :: L) H ops rest) : TL r P Q N D B w0 L H ops (⟨some d, .binOp .neq t x y t', ty, pos, aft, none⟩ :: rest) :=
  TL_neq hd hx hy (by rw [decide_eq_false (fun h' => h' h)]; exact k)
end
end Go.Eng
/- The engine, short forms: one step, a run of steps, the operations of a drawn region. The tactics stand here once. -/
namespace Go.Eng
open Go Go.RowKit
set_option linter.unusedVariables false
/-- What is left, held (so that no tactic takes it for a fact). -/
structure Hd (A : Prop) : Prop where
  h : A
/-- One plain operation, or one step of control. -/
theorem r1 {A B : Prop} (k : A) (h : Hd A → B := by
  intro _K
  first
    | (apply TL_move; exact rfl; exact rfl)
    | (apply TL_assign; exact rfl; exact rfl)
    | (apply TL_guard_yes; exact rfl; exact rfl; exact rfl)
    | (apply TL_guard_no; exact rfl; exact rfl; exact rfl; exact rfl)
    | (apply TL_guard_no_none; exact rfl; exact rfl; exact rfl)
    | (apply TL_guard_un; exact rfl; exact rfl; exact rfl)
    | (apply TL_fieldAddr; exact rfl; exact rfl)
    | (apply TL_load1; exact rfl; exact rfl; (repeat (first | exact List.Mem.head _ | apply List.Mem.tail | apply List.mem_append_right)); exact rfl)
    | (apply TL_loadn; exact rfl; exact rfl; (repeat (first | exact List.Mem.head _ | apply List.Mem.tail | apply List.mem_append_right)); exact rfl)
    | (apply TL_extract; exact rfl; exact rfl; exact rfl)
    | (apply TL_pick; exact rfl; exact rfl; exact rfl)
    | (apply TL_lss; exact rfl; exact rfl; exact rfl)
    | (apply TL_leq; exact rfl; exact rfl; exact rfl)
    | (apply TL_gtr; exact rfl; exact rfl; exact rfl)
    | (apply TL_geq; exact rfl; exact rfl; exact rfl)
    | (apply TL_eql; exact rfl; exact rfl; exact rfl)
    | (apply TL_neq; exact rfl; exact rfl; exact rfl)
    | (apply TL_eqlS; exact rfl; exact rfl; exact rfl; exact rfl; exact rfl; exact rfl; exact rfl; exact rfl; exact rfl)
    | (apply TL_neqS; exact rfl; exact rfl; exact rfl; exact rfl; exact rfl; exact rfl; exact rfl; exact rfl; exact rfl)
    | (apply TL_not_dec; exact rfl; exact rfl)
    | (apply TL_not; exact rfl; exact rfl)
    | (apply TL_add; exact rfl; exact rfl; exact rfl; (first | omega | (dsimp only; omega)))
    | (apply TL_sub; exact rfl; exact rfl; exact rfl; (first | omega | (dsimp only; omega)))
    | (apply TL_mul; exact rfl; exact rfl; exact rfl; (first | omega | (dsimp only; omega)))
    | (apply TL_neg; exact rfl; exact rfl; (first | omega | (dsimp only; omega)))
    | (apply TL_quo_nn; exact rfl; exact rfl; exact rfl; (first | omega | (dsimp only; omega)); (first | omega | (dsimp only; omega)))
    | (apply TL_rem_nn; exact rfl; exact rfl; exact rfl; (first | omega | (dsimp only; omega)); (first | omega | (dsimp only; omega)))
    | (apply TL_min; exact rfl; exact rfl; exact rfl)
    | (apply TL_max; exact rfl; exact rfl; exact rfl)
    | (apply TL_len; exact rfl; exact rfl)
    | (apply TL_convert; exact rfl; exact rfl)
    | (apply TL_build; exact rfl; exact rfl; exact rfl)
    | (apply TL_buildA; exact rfl; exact rfl; exact rfl)
    | (apply TL_store; exact rfl; exact rfl; exact rfl; exact rfl; exact rfl; (repeat (first | exact Upd.head | apply Upd.tail | apply Upd.right)); exact rfl)
    | (apply TL_makeFunc; exact rfl; exact rfl; exact rfl)
    | (apply TC_seq)
    | (apply TC_region)
    | (apply TL_nil)
    | (apply TQ_then)
    | (apply TC_skip)
    | (apply TC_exit)
    | (apply TC_block)
    | (apply TC_label)
    | (apply TQ_then_exit)
    | (apply TQ_block_exit; exact rfl)
    | (apply TQ_block_exit_ne; exact rfl)
    | (apply TQ_block)
    | (apply TQ_then_ret)
    | (apply TQ_block_ret)
    | (apply TC_ret)
    | (apply TC_cond_t; exact rfl; exact rfl)
    | (apply TC_cond_f; exact rfl; exact rfl)
  exact _K.h) : B := h ⟨k⟩
/-- As many as go. -/
theorem rn {A B : Prop} (k : A) (h : Hd A → B := by
  intro _K
  refine r1 ?_
  repeat refine r1 ?_
  exact _K.h) : B := h ⟨k⟩
theorem mm {p : Prop} (h : p := by repeat (first | exact List.Mem.head _ | apply List.Mem.tail | apply List.mem_append_right)) : p := h
theorem up {p : Prop} (h : p := by repeat (first | exact Upd.head | apply Upd.tail | apply Upd.right)) : p := h
theorem sb {p : Prop} (h : p := by repeat (first | exact Sub.nil _ | refine Sub.cons (by rfl) ?_)) : p := h
theorem sl {p : Prop} (h : p := by repeat (first | exact List.Sublist.refl _ | apply List.Sublist.cons_cons | apply List.Sublist.cons | apply List.nil_sublist)) : p := h
section
variable {r : Option Nat} {P : Program} {Q : Exit → Act → World → Prop} {N : Nat} {D : List Deferred} {B : Nat} {w0 : World} {L : Env} {H : Hp} {ops : Array Oper} {rest : List Oper}
theorem pv {o : Oper} {E : Env} {Fs : List Fact} {d : Nat} {c : Value} {ps : List (Nat × Post)} (k : PG r P N D B w0 H ops rest ((d, c) :: E) Fs ps) (h1 : o.dst = some d := by exact rfl) (h2 : Nat.blt d N = true := by exact rfl)
    (h3 : AllF (fltF ops o Fs) (fun EF G => ∀ X : Hp, TL r P (QV D B w0 d c (G ++ (X ++ H))) N D B w0 (EF ++ E) (G ++ (X ++ H)) ops [o]) := by
      intro _X
      refine r1 ?_
      apply TL_nil
      exact TQ_QV rfl (fun _ h => h)) : PG r P N D B w0 H ops (o :: rest) E Fs ((d, .val c) :: ps) := PG.val h1 h2 h3 k
/-- .. behind a guard. -/
theorem pg {o : Oper} {E : Env} {Fs : List Fact} {d : Nat} {c : Value} {ps : List (Nat × Post)} (k : PG r P N D B w0 H ops rest ((d, c) :: E) Fs ps) (h1 : o.dst = some d := by exact rfl) (h2 : Nat.blt d N = true := by exact rfl)
    (h3 : AllF (fltF ops o Fs) (fun EF G => ∀ X : Hp, TL r P (QV D B w0 d c (G ++ (X ++ H))) N D B w0 (EF ++ E) (G ++ (X ++ H)) ops [o]) := by
      intro _X
      refine r1 ?_
      refine r1 ?_
      apply TL_nil
      exact TQ_QV rfl (fun _ h => h)) : PG r P N D B w0 H ops (o :: rest) E Fs ((d, .val c) :: ps) := PG.val h1 h2 h3 k
/-- The end of one operation. -/
theorem qe {d : Nat} {c : Value} {H1 : Hp} (h1 : lk L d = some c := by exact rfl) : TL r P (QV D B w0 d c H1) N D B w0 L H1 ops [] := TL_nil (TQ_QV h1 (fun _ h => h))
end
end Go.Eng
/- The engine, part 11: ranges over functions, whose rounds all end normally. -/
namespace Go.Eng
open Go Go.RowKit

/-- The calls of yield that an iterator may make: round j is handed xs j, and turns the caller's blocks from Y j to Y (j + 1). -/
def Yld (P : Program) (B : Nat) (w0 : World) (l n : Nat) (xs : Nat → List Value) (Y : Nat → Hp) : Prop :=
  ∀ j, j < n → ∀ (G : Hp) (w : World), SH B w0 w (Y j ++ G) → ∃ fn tmps as_ bd, (Instr.yield l (xs j).toArray).run P w = .ok (.round l fn tmps as_ bd) w ∧
    RoundIn (FW none) 0 P l fn tmps as_ bd w (fun e w' => e = .returned (.bool true) ∧ SH B w0 w' (Y (j + 1) ++ G))

theorem SH.putObj {B : Nat} {w0 w : World} {H H' : Hp} {l : Nat} {o : Obj} (o' : Obj) (h : SH B w0 w H) (hu : Upd H l (.obj o) (.obj o') H') : SH B w0 (w.putObj l o') H' := by
  have hlt := h.lt hu.mem
  exact h.upd hu rfl rfl rfl World.putObj_size (World.putObj_heap_same hlt) (fun c hc => World.putObj_heap_other hc)

section
variable {r : Option Nat} {P : Program} {Q : Exit → Act → World → Prop} {N : Nat} {D : List Deferred} {B : Nat} {w0 : World} {L : Env} {H : Hp} {ops : Array Oper} {rest : List Oper}
variable {d : Option Nat} {ty : TypeId} {pos : String} {aft : Array Edge}

theorem TL_yield {callee : Operand} {args : List Operand} {at_ : Array TypeId} {l n : Nat} {xs : Nat → List Value} {Y : Nat → Hp} {vs : List Value} (hx : ev L callee = some (.func (.yield l) #[] #[])) (ha : evL L args = some vs) (hd : okD N d = true) (hy : Yld P B w0 l n xs Y) (j : Nat) (G : Hp)
    (hj : j < n) (hvs : vs = xs j) (hp : (Y j ++ G).Perm H)
    (k : TL none P Q N D B w0 (putE L d (.bool true)) (Y (j + 1) ++ G) ops rest) :
    TL none P Q N D B w0 L H ops (⟨d, .call { callee := .value callee, args := args.toArray, argTypes := at_ }, ty, pos, aft, none⟩ :: rest) :=
  TL_run rfl (by simp) fun a w hf hs => by
    obtain ⟨fn, tmps, as_, bd, h1, h2⟩ := hy j hj G w (hs.perm hp)
    have e : (execOp a.eval ⟨d, .call { callee := .value callee, args := args.toArray, argTypes := at_ }, ty, pos, aft, none⟩).run P w = .ok (.round l fn tmps as_ bd) w := by
      simp only [execOp, resolve, hf.ev hx, Deferred.ofValue, List.map_toArray, evL_spec hf ha, Sem.run_bind, Sem.run_pure, Result.andThen, invoke, hvs]
      simpa using h1
    rw [e]
    refine ⟨fun h => by simp [FW] at h, h2.mono ?_⟩
    rintro e w' ⟨rfl, hs'⟩
    exact k _ _ (hf.putE hd _) hs'

/-- The environment of a round. -/
def envR : List Nat → List Value → Env → Env
  | p :: ps, v :: vs, L => envR ps vs ((p, v) :: L)
  | _, _, L => L
theorem Fr.round {ps : List Nat} {vs : List Value} {a : Act} (h : Fr N D L a) (hN : ∀ p ∈ ps, p < N) : Fr N [] (envR ps vs L) { tmps := (ps.toArray.zip vs.toArray).foldl (fun t (p, v) => t.setIfInBounds p v) a.tmps, defers := [] } := by
  have key : ∀ (ps : List Nat) (vs : List Value) (L : Env) (t : Array Value), (∀ p ∈ ps, p < N) → Fr N [] L { tmps := t, defers := [] } → Fr N [] (envR ps vs L) { tmps := (ps.zip vs).foldl (fun t (p, v) => t.setIfInBounds p v) t, defers := [] } := by
    intro ps
    induction ps with
    | nil => intro vs L t _ h; simpa [envR] using h
    | cons p ps ih =>
      intro vs L t hp h
      cases vs with
      | nil => simpa [envR] using h
      | cons v vs =>
        refine ih vs _ _ (fun q hq => hp q (List.mem_cons_of_mem _ hq)) ?_
        have := h.put (d := p) (by simpa [Nat.blt_eq] using hp p List.mem_cons_self) v
        exact this
  have := key ps vs L a.tmps hN ⟨h.size, rfl, h.get⟩
  rw [show (ps.toArray.zip vs.toArray) = (ps.zip vs).toArray by simp, ← Array.foldl_toList]
  exact this

/-- What a round owes at its body's end. -/
def bodyQ (B : Nat) (w0 : World) (H' : Hp) : Exit → Act → World → Prop := fun e _ w => e = .normal ∧ SH B w0 w H'
theorem TQ_body {H' : Hp} (hH : ∀ w, SH B w0 w H → SH B w0 w H') : TQ (bodyQ B w0 H') N D B w0 L H .normal := fun _ w _ hs => ⟨rfl, hH w hs⟩
def mark (D : Nat) : Deferred := { target := .collected D, args := #[] }
/-- What a round owes at its assignments' end: then the record is busy, then the body. -/
def asgQ (P : Program) (B : Nat) (w0 : World) (l : Nat) (body : Code) (H' : Hp) : Exit → Act → World → Prop :=
  Exit.then (fun a₁ w₁ => ∃ w₂, (Instr.beginRound l).run P w₁ = .ok () w₂ ∧ body.wpIn ((FW none).inRound l) 0 P (bodyQ B w0 H') a₁ w₂) (fun _ _ _ => False)
def recO (rec : Loop) (st : LoopState) : Obj := .loop { rec with state := st }
theorem TQ_asg {l : Nat} {body : Code} {H' : Hp} {rec : Loop} {Hb : Hp} (hu : Upd H l (.obj (recO rec .ready)) (.obj (recO rec .busy)) Hb) (h : TC (some l) P (bodyQ B w0 H') N D B w0 L Hb body) : TQ (asgQ P B w0 l body H') N D B w0 L H .normal := fun a w hf hs => by
  have hl : w.heap[l]? = some (.loop { rec with state := .ready }) := (hs.holds _ _ hu.mem).2
  exact ⟨_, run_beginRound hl rfl, h a _ hf (hs.putObj _ hu)⟩

/-- A range over a function, outermost. -/
theorem TC_range {g : Operand} {ps : List Nat} {assign body : Code} {k : FuncId} {cl : List Value} [hent : EntP P k] (hg : ev L g = some (.func (.func k) #[] cl.toArray)) (hN : ps.all (fun p => Nat.blt p N) = true) (n : Nat) (xs : Nat → List Value) (Z : Nat → Hp)
    (hx : ∀ j, (xs j).length = ps.length) (h0 : ∀ w, SH B w0 w H → SH B w0 w (Z 0))
    (hround : ∀ (l Dd : Nat) (rec : Loop) (j : Nat) (G : Hp), j < n → TC (some l) P (asgQ P B w0 l body ((l, .obj (recO rec .busy)) :: (Dd, .obj (.deferred (some []))) :: (Z (j + 1) ++ G))) N [] B w0 (envR ps (xs j) L) ((l, .obj (recO rec .ready)) :: (Dd, .obj (.deferred (some []))) :: (Z j ++ G)) assign)
    (hiter : ∀ (l : Nat) (Y : Nat → Hp) (G : Hp), (∀ j, Y j = G ++ Z j) → Yld P B w0 l n xs Y → ∀ w, SH B w0 w (Y 0) → Calls P k (.func (.yield l) #[] #[] :: cl).toArray w (RetP B w0 (fun _ : Unit => .tuple #[]) (fun _ => Y n) (fun _ => True)))
    (hdone : ∀ Dd, TQ Q N (mark Dd :: D) B w0 L ((Dd, .obj (.deferred (some []))) :: Z n) .normal) : TC none P Q N D B w0 L H (.rangeFunc g ps.toArray assign body) := fun a w hf hs => by
  refine wpIn_rangeFunc ?_
  intro fn hfn
  have hpn : ∀ p ∈ ps, p < N := fun p hp => by
    have := List.all_eq_true.1 hN p hp
    simpa [Nat.blt_eq] using this
  let rec_ : Loop := { state := .ready, pending := none, fn, tmps := a.tmps, params := ps.toArray, assign, body, defers := w.heap.size }
  let W1 := (w.alloc (.deferred (some []))).alloc (.loop rec_)
  have hsz : (w.alloc (.deferred (some []))).heap.size = w.heap.size + 1 := by simp
  have hs1 : SH B w0 W1 ((w.heap.size + 1, .obj (recO rec_ .ready)) :: (w.heap.size, .obj (.deferred (some []))) :: Z 0) := by
    have h1 := (h0 w hs).alloc (.obj (.deferred (some [])))
    have h2 := h1.alloc (.obj (recO rec_ .ready))
    simp only [Blk.toObj] at h2
    rw [hsz] at h2
    exact h2
  refine ⟨w.heap.size + 1, [mark w.heap.size], W1, { target := .fn (.func k) cl.toArray, args := #[.func (.yield (w.heap.size + 1)) #[] #[]] }, W1, k,
    #[.func (.yield (w.heap.size + 1)) #[] #[]] ++ cl.toArray, W1, ?_, ?_, ?_, ?_, fun h => by simp [FW] at h, ?_⟩
  · exact run_enterLoop_outer _ _ _ _ _
  · simp only [resolve, hf.ev hg]
    simp [Deferred.ofValue, Act.eval]
  · intro f' _; trivial
  · simp [invoke, hent.run]
  · have hY : Yld P B w0 (w.heap.size + 1) n xs (fun j => [(w.heap.size + 1, .obj (recO rec_ .ready)), (w.heap.size, .obj (.deferred (some [])))] ++ Z j) := by
      intro j hj G W hW
      have hl : W.heap[w.heap.size + 1]? = some (.loop rec_) := (hW.holds (w.heap.size + 1) (.obj (recO rec_ .ready)) List.mem_cons_self).2
      refine ⟨fn, _, assign, body, run_yield hl (by simp [hx, rec_]), roundIn_of_wpIn hfn ?_⟩
      have hR := hround (w.heap.size + 1) w.heap.size rec_ j G hj { tmps := (ps.toArray.zip (xs j).toArray).foldl (fun t (p, v) => t.setIfInBounds p v) a.tmps, defers := [] } W (hf.round hpn) hW
      refine wpIn_mono hR fun e a₁ w₁ hq => ?_
      cases e with
      | normal =>
        obtain ⟨w₂, hb, hbody⟩ := hq
        refine ⟨w₂, hb, wpIn_mono hbody fun e a₂ w₃ hq2 => ?_⟩
        obtain ⟨rfl, hs3⟩ := hq2
        have hl3 : w₃.heap[w.heap.size + 1]? = some (.loop { rec_ with state := .busy }) := (hs3.holds (w.heap.size + 1) (.obj (recO rec_ .busy)) List.mem_cons_self).2
        refine ⟨_, _, run_endRound none hl3, rfl, ?_⟩
        exact hs3.putObj (o := recO rec_ .busy) (recO rec_ .ready) Upd.head
      | _ => exact hq
    have hc := hiter (w.heap.size + 1) _ [(w.heap.size + 1, .obj (recO rec_ .ready)), (w.heap.size, .obj (.deferred (some [])))] (fun j => rfl) hY W1 hs1
    have e : #[Value.func (.yield (w.heap.size + 1)) #[] #[]] ++ cl.toArray = (.func (.yield (w.heap.size + 1)) #[] #[] :: cl).toArray := by simp
    rw [e]
    refine (callsIn_of_calls hc).mono ?_
    rintro e' w3 ⟨_, _, rfl, hs3⟩
    have hl3 : w3.heap[w.heap.size + 1]? = some (.loop rec_) := (hs3.holds (w.heap.size + 1) (.obj (recO rec_ .ready)) List.mem_cons_self).2
    refine ⟨none, _, run_endLoop hl3 (by simp [rec_]), ?_⟩
    refine hdone w.heap.size _ _ ⟨hf.size, by simp [hf.defers], hf.get⟩ ?_
    have := hs3.putObj (o := recO rec_ .ready) (recO rec_ .exhausted) Upd.head
    exact this.sub (List.Sublist.cons _ (List.Sublist.refl _))
end

section
variable {P : Program} {N : Nat} {B : Nat} {w0 : World} {L : Env} {H : Hp}
theorem enterM {f : FuncId} {fn : Func} {c : Code} {args : List Value} {w : World} {R : Ending → World → Prop} (hf : P.funcs[f]? = some fn) (hb : fn.body = some c) (hN : fn.ntmps = N) (hle : Nat.ble args.length N = true)
    (hS : SH B w0 w H) (h : TC none P (bodyPostM (FW none) 0 P fn R) N [] B w0 (envOf 0 args) H c) : Calls P f args.toArray w R := by
  refine (callsIn_wide (n := 0)).1 (callsIn_of_wp_marks hf hb trivial (h _ w ⟨?_, rfl, fun k v hk => ?_⟩ hS))
  · have : args.length ≤ N := by simpa using hle
    simp [hN]; omega
  · have h1 := (lk_envOf args 0 k v hk).2
    simp only [Nat.sub_zero] at h1
    have h2 := (List.getElem?_eq_some_iff.1 h1).1
    rw [Array.getElem?_append_left (by simpa using h2)]
    simpa using h1
/-- The results, as one value. -/
def resVs (P : Program) (B : Nat) (w0 : World) (L : Env) (H : Hp) : List ResultVar → List Value → Prop
  | [], [] => True
  | r :: rs, v :: vs => RV P B w0 L H r v ∧ resVs P B w0 L H rs vs
  | _, _ => False
def oneOr : List Value → Value
  | [v] => v
  | vs => .tuple vs.toArray
theorem run_resVs {fn : Func} {rs : List ResultVar} {vs : List Value} (hr : fn.results = rs.toArray) (h : resVs P B w0 L H rs vs) {a : Act} {w : World} {D : List Deferred} (hf : Fr N D L a) (hs : SH B w0 w H) : (results fn a.tmps).run P w = .ok (oneOr vs) w := by
  rw [results_eq, hr]
  have key : ∀ (rs : List ResultVar) (vs : List Value), resVs P B w0 L H rs vs → (rs.mapM (resSem a.tmps)).run P w = .ok vs w := by
    intro rs
    induction rs with
    | nil => intro vs h; cases vs with
      | nil => rfl
      | cons => exact h.elim
    | cons r rs ih => intro vs h; cases vs with
      | nil => exact h.elim
      | cons v vs =>
        have h1 := h.1 a w _ _ hf hs
        have h2 := ih vs h.2
        simp [List.mapM_cons, h1, h2]
  have h1 := key rs vs h
  have h2 : (rs.toArray.mapM (resSem a.tmps)).run P w = .ok vs.toArray w := by
    rw [List.mapM_toArray, Sem.run_map, h1]; rfl
  simp only [Sem.run_bind, h2, Result.andThen, Sem.run_pure]
  congr 1
  cases vs with
  | nil => simp [oneOr]
  | cons v vs => cases vs with
    | nil => simp [oneOr]
    | cons u vs => simp [oneOr]
/-- A function that held one range over a function leaves. -/
theorem TQ_leaveM {fn : Func} {R : Ending → World → Prop} {Dd : Nat} {e : Exit} {rs : List ResultVar} {vs : List Value} {H' : Hp} (he : e = .ret ∨ e = .normal) (hu : Upd H Dd (.obj (.deferred (some []))) (.obj (.deferred none)) H')
    (hr : fn.results = rs.toArray) (h1 : resVs P B w0 L H' rs vs) (hR : ∀ w, SH B w0 w H' → R (.returned (oneOr vs)) w) : TQ (bodyPostM (FW none) 0 P fn R) N [mark Dd] B w0 L H e := fun a w hf hs => by
  have key : LeavesInM (FW none) 0 P fn a.tmps R [mark Dd] .returning w := by
    refine ⟨by simp, .inl ⟨Dd, _, rfl, run_takeDeferred (hs.holds _ _ hu.mem).2, ?_⟩⟩
    have hs' := hs.putObj _ hu
    exact ⟨_, run_resVs hr h1 hf hs', hR _ hs'⟩
  rcases he with rfl | rfl
  · show LeavesInM _ _ _ _ _ _ a.defers _ _
    rw [hf.defers]; exact key
  · show LeavesInM _ _ _ _ _ _ a.defers _ _
    rw [hf.defers]; exact key
end
end Go.Eng
