/- The engine, part 9: functions that defer, deferred calls that recover. -/
import Derived.Test.YtccgplomnjpniaaEng8
namespace Go.Eng
open Go Go.RowKit

section
variable {P : Program} {Q : Exit → Act → World → Prop} {N : Nat} {D : List Deferred} {B : Nat} {w0 : World} {L : Env} {H : Hp} {ops : Array Oper} {rest : List Oper}

theorem enterD {f : FuncId} {fn : Func} {c : Code} {args : List Value} {w : World} {R : Ending → World → Prop} (hf : P.funcs[f]? = some fn) (hb : fn.body = some c) (hN : fn.ntmps = N) (hle : Nat.ble args.length N = true)
    (hS : SH B w0 w H) (h : TC none P (bodyPostDIn (FW none) 0 P fn R) N [] B w0 (envOf 0 args) H c) : Calls P f args.toArray w R := by
  refine (callsIn_wide (n := 0)).1 (callsIn_of_wp_defers hf hb trivial (h _ w ⟨?_, rfl, fun k v hk => ?_⟩ hS))
  · have : args.length ≤ N := by simpa using hle
    simp [hN]; omega
  · have h1 := (lk_envOf args 0 k v hk).2
    simp only [Nat.sub_zero] at h1
    have h2 := (List.getElem?_eq_some_iff.1 h1).1
    rw [Array.getElem?_append_left (by simpa using h2)]
    simpa using h1

def dfr (k : FuncId) (cl : List Value) : Deferred := { target := .fn (.func k) cl.toArray, args := #[] }
theorem TL_defer {x : Operand} {k : FuncId} {cl : List Value} {at_ : Array TypeId} {ty : TypeId} {pos : String} {aft : Array Edge} (hx : ev L x = some (.func (.func k) #[] cl.toArray))
    (kk : TL none P Q N (dfr k cl :: D) B w0 L H ops rest) : TL none P Q N D B w0 L H ops (⟨none, .defer { callee := .value x, args := #[], argTypes := at_ }, ty, pos, aft, none⟩ :: rest) := by
  intro a w hf hs
  unfold wpListIn
  rw [if_pos (by simp [Region.wanted])]
  refine ⟨fun _ _ => trivial, ?_⟩
  have e : (Oper.semAt (FW none).round a.eval ⟨none, .defer { callee := .value x, args := #[], argTypes := at_ }, ty, pos, aft, none⟩).run P w = .ok (.defer (dfr k cl)) w := by
    show (Oper.semAt none _ _).run P w = _
    rw [Oper.semAt_none]
    simp [execOp, resolve, hf.ev hx, Deferred.ofValue, dfr]
  rw [e]
  exact kk _ _ ⟨hf.size, by simp [Act.put, hf.defers], hf.get⟩ hs

/-- A function with one deferred call leaves: by its end, or by a panic. -/
theorem TQ_leave3 {fn : Func} {R : Ending → World → Prop} {k : FuncId} {cl : List Value} {u : FrameMode} {e : Exit} {H' : Hp} {r1 r2 r3 : ResultVar} {v1 v2 v3 : Value} [hent : EntP P k]
    (hu : (u = .returning ∧ (e = .ret ∨ e = .normal)) ∨ ∃ c, u = .panicking c ∧ e = .panic c)
    (hc : ∀ w, SH B w0 w H → CallsDIn (FW none) 0 P k cl.toArray u w (fun e u' w' => (∃ v, e = .returned v) ∧ settle u' = .returning ∧ SH B w0 w' H'))
    (hr : fn.results = #[r1, r2, r3]) (h1 : RV P B w0 L H' r1 v1) (h2 : RV P B w0 L H' r2 v2) (h3 : RV P B w0 L H' r3 v3) (hR : ∀ w, SH B w0 w H' → R (.returned (.tuple #[v1, v2, v3])) w) :
    TQ (bodyPostDIn (FW none) 0 P fn R) N [dfr k cl] B w0 L H e := fun a w hf hs => by
  have key : u ≠ .run → LeavesIn (FW none) 0 P fn a.tmps R [dfr k cl] u w := fun hne => by
    refine leavesIn_cons (f := k) (args := cl.toArray) hne (fun h => by simp [FW] at h) (by simpa [invoke] using hent.run cl.toArray w) (fun _ _ => trivial) ?_
    refine (hc w hs).mono ?_
    rintro e' u' w' ⟨⟨v, rfl⟩, hset, hs'⟩
    show LeavesIn (FW none) 0 P fn a.tmps R [] (settle u') w'
    rw [hset]
    have e1 := h1 a w' _ _ hf hs'
    have e2 := h2 a w' _ _ hf hs'
    have e3 := h3 a w' _ _ hf hs'
    exact ⟨_, by simp [results_eq, hr, e1, e2, e3], hR w' hs'⟩
  rcases hu with ⟨rfl, rfl | rfl⟩ | ⟨c, rfl, rfl⟩
  · show LeavesIn _ _ _ _ _ _ a.defers _ _
    rw [hf.defers]; exact key (by simp)
  · show LeavesIn _ _ _ _ _ _ a.defers _ _
    rw [hf.defers]; exact key (by simp)
  · show LeavesIn _ _ _ _ _ _ a.defers _ _
    rw [hf.defers]; exact key (by simp)

/-- A deferred function that begins with 'x := recover()'. -/
theorem enterRec {f : FuncId} {fn : Func} {c : Code} {id d1 d2 : Nat} {t1 t2 : TypeId} {p1 p2 : String} {a1 a2 : Array Edge} {args : List Value} {u u' : FrameMode} {v : Value} {w : World} {R : Ending → FrameMode → World → Prop}
    (hf : P.funcs[f]? = some fn) (hb : fn.body = some (.seq (.region id #[⟨some d1, .call { callee := .builtin .recover, args := #[], argTypes := #[] }, t1, p1, a1, none⟩, ⟨some d2, .assign (.tmp d1), t2, p2, a2, none⟩] false) c)) (hN : fn.ntmps = N) (hle : Nat.ble args.length N = true)
    (hd1 : Nat.blt d1 N = true) (hd2 : Nat.blt d2 N = true)
    (hu : (u = .returning ∧ u' = .returning ∧ v = .nilIface) ∨ (u = .panicking [{ v, recovered := false }] ∧ u' = .panicking [{ v, recovered := true }]))
    (hS : SH B w0 w H) (h : TC none P (bodyPost P fn fun e w => R e u' w) N [] B w0 ((d2, v) :: (d1, v) :: envOf 0 args) H c) : CallsDIn (FW none) 0 P f args.toArray u w R := by
  refine callsDIn_of_wpSIn hf hb trivial fun c₀ cs hm => ?_
  have hrec : (recoverD (c₀ :: cs) = none ∧ v = .nilIface ∧ c₀ = { c₀ with mode := u' }) ∨ recoverD (c₀ :: cs) = some (v, { c₀ with mode := u' } :: cs) := by
    rcases hu with ⟨rfl, rfl, rfl⟩ | ⟨rfl, rfl⟩
    · exact .inl ⟨by simp [recoverD, hm], rfl, by rw [← hm]⟩
    · exact .inr (by simp [recoverD, hm])
  have hF0 : Fr N [] (envOf 0 args) { tmps := args.toArray ++ Array.replicate (fn.ntmps - args.toArray.size) undef, defers := [] } := by
    refine ⟨?_, rfl, fun k v hk => ?_⟩
    · have : args.length ≤ N := by simpa using hle
      simp [hN]; omega
    · have h1 := (lk_envOf args 0 k v hk).2
      simp only [Nat.sub_zero] at h1
      have h2 := (List.getElem?_eq_some_iff.1 h1).1
      rw [Array.getElem?_append_left (by simpa using h2)]
      simpa using h1
  have fin : ∀ a w, Fr N [] ((d2, v) :: (d1, v) :: envOf 0 args) a → SH B w0 w H → c.wpSIn (FW none) 0 P (bodyPostS P fn c₀ cs R) a ({ c₀ with mode := u' } :: cs) w := fun a w hfa hsw => by
    refine wpSIn_of_wpIn rfl (wpIn_mono (h a w hfa hsw) fun e a' w' hq => ?_)
    cases e with
    | normal => obtain ⟨hd, x, hr, hR⟩ := hq; exact ⟨hd, u', rfl, x, hr, hR⟩
    | ret => obtain ⟨hd, x, hr, hR⟩ := hq; exact ⟨hd, u', rfl, x, hr, hR⟩
    | panic ch => exact ⟨hq.1, u', rfl, hq.2⟩
    | exit i => exact hq.elim
    | goto l => exact hq.elim
    | outgrown => exact ⟨u', hq⟩
  refine wpSIn_seq (wpSIn_region ?_)
  have hrun : ∀ (a : Act), (execOp a.eval ⟨some d1, .call { callee := .builtin .recover, args := #[], argTypes := #[] }, t1, p1, a1, none⟩).run P w = .ok .recover w := fun a => by
    simp [execOp, resolve, invoke, Go.builtin]
  have hF1 := (hF0.put hd1 v).put hd2 v
  have hev : ∀ (a : Act), Fr N [] ((d1, v) :: envOf 0 args) a → a.eval (.tmp d1) = v := fun a ha => ha.ev (by simp [Eng.ev, lk_cons_same])
  have hrun2 : ∀ (a : Act), Fr N [] ((d1, v) :: envOf 0 args) a → (execOp a.eval ⟨some d2, .assign (.tmp d1), t2, p2, a2, none⟩).run P w = .ok (.value v) w := fun a ha => by
    have := hev a ha
    simp [execOp, this]
  have hl2 : List.range 2 = [0, 1] := rfl
  show wpOpsSIn _ _ _ _ _ (List.range 2) _ _ _
  rw [hl2]
  generalize hops : #[(⟨some d1, .call { callee := .builtin .recover, args := #[], argTypes := #[] }, t1, p1, a1, none⟩ : Oper), ⟨some d2, .assign (.tmp d1), t2, p2, a2, none⟩] = ops
  have g0 : ops[0]? = some ⟨some d1, .call { callee := .builtin .recover, args := #[], argTypes := #[] }, t1, p1, a1, none⟩ := by subst hops; rfl
  have g1 : ops[1]? = some ⟨some d2, .assign (.tmp d1), t2, p2, a2, none⟩ := by subst hops; rfl
  have second : ∀ (a : Act) (cs' : List Frame), Fr N [] ((d1, v) :: envOf 0 args) a → (∀ a, Fr N [] ((d2, v) :: (d1, v) :: envOf 0 args) a → c.wpSIn (FW none) 0 P (bodyPostS P fn c₀ cs R) a cs' w) →
      wpOpsSIn (FW none) 0 P ops (Exit.thenS (c.wpSIn (FW none) 0 P (bodyPostS P fn c₀ cs R)) (bodyPostS P fn c₀ cs R)) [1] a cs' w := fun a cs' ha hk => by
    simp only [wpOpsSIn, g1]
    refine ⟨fun _ _ => trivial, ?_⟩
    rw [if_pos (by simp [Region.wanted]), hrun2 a ha]
    exact hk _ (ha.put hd2 v)
  rw [wpOpsSIn.eq_2]
  simp only [g0]
  refine ⟨fun _ _ => trivial, ?_⟩
  rw [if_pos (by simp [Region.wanted]), hrun]
  rcases hrec with ⟨hn, hv, hc0⟩ | hsome
  · simp only [hn]
    rw [← hv]
    refine second _ _ (hF0.put hd1 v) (fun a ha => ?_)
    have := fin a w ha hS
    rw [← hc0] at this
    exact this
  · simp only [hsome]
    exact second _ _ (hF0.put hd1 v) (fun a ha => fin a w ha hS)

section
variable {r : Option Nat} {d : Nat} {ty : TypeId} {pos : String} {aft : Array Edge}
theorem TL_neq_held {t t' tt : TypeId} {x : Operand} {u : Value} (hd : Nat.blt d N = true) (hu : P.underlying t = some (.interface (P.methodsAt t))) (hx : ev L x = some (.iface tt u))
    (k : TL r P Q N D B w0 ((d, .bool true) :: L) H ops rest) : TL r P Q N D B w0 L H ops (⟨some d, .binOp .neq t x (.const .nilIface) t', ty, pos, aft, none⟩ :: rest) :=
  TL_val (by simp) hd _ (fun a w hf _ => by
    have h := run_equal_held_nil (P := P) w t tt u hu
    have hc : a.eval (.const .nilIface) = .nilIface := rfl
    simp [execOp, hf.ev hx, hc, eqGuard, binOp, h]) k
theorem TL_neq_nilnil {t t' : TypeId} {x : Operand} (hd : Nat.blt d N = true) (hu : P.underlying t = some (.interface (P.methodsAt t))) (hx : ev L x = some .nilIface)
    (k : TL r P Q N D B w0 ((d, .bool false) :: L) H ops rest) : TL r P Q N D B w0 L H ops (⟨some d, .binOp .neq t x (.const .nilIface) t', ty, pos, aft, none⟩ :: rest) :=
  TL_val (by simp) hd _ (fun a w hf _ => by
    have h := run_equal_nil_nil (P := P) w t hu
    have hc : a.eval (.const .nilIface) = .nilIface := rfl
    simp [execOp, hf.ev hx, hc, eqGuard, binOp, h]) k
theorem TL_typeAssert_ok {t asserted : TypeId} {x : Operand} {u : Value} {fs : Array Field} (hd : Nat.blt d N = true) (hu : P.underlying asserted = some (.struct fs)) (hx : ev L x = some (.iface asserted u))
    (k : TL r P Q N D B w0 ((d, .tuple #[u, .bool true]) :: L) H ops rest) : TL r P Q N D B w0 L H ops (⟨some d, .typeAssert x t asserted true, ty, pos, aft, none⟩ :: rest) :=
  TL_val (by simp) hd _ (fun a w hf _ => by simp [execOp, hf.ev hx, Instr.typeAssert, run_underlying hu]) k
end
end
end Go.Eng
