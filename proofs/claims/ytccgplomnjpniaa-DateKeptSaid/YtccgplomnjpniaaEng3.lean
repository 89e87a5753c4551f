/- The engine, part 3: calls, results, loops, guards, composite values. -/
import Derived.Test.YtccgplomnjpniaaEng2
namespace Go.Eng
open Go Go.RowKit
set_option linter.unusedVariables false
set_option linter.unusedSimpArgs false

/-! ### Entering a function, leaving it -/
def envOf : Nat → List Value → Env
  | _, [] => []
  | i, v :: vs => (i, v) :: envOf (i + 1) vs

theorem lk_envOf : ∀ (vs : List Value) (i k : Nat) (v : Value), lk (envOf i vs) k = some v → i ≤ k ∧ vs[k - i]? = some v := by
  intro vs
  induction vs with
  | nil => intro i k v h; cases h
  | cons x vs ih =>
    intro i k v h
    by_cases e : i = k
    · subst e
      simp only [envOf, lk_cons_same] at h
      simpa using h
    · simp only [envOf] at h
      rw [lk_cons_ne _ _ e] at h
      obtain ⟨h1, h2⟩ := ih _ _ _ h
      refine ⟨by omega, ?_⟩
      rw [show k - i = (k - (i + 1)) + 1 by omega]
      simpa using h2

/-- The ending that a contract gives: it returns, with some x. -/
def RetP (B : Nat) (w0 : World) {X : Type} (val : X → Value) (H' : X → Hp) (Φ : X → Prop) : Ending → World → Prop :=
  fun e w => ∃ x, Φ x ∧ e = .returned (val x) ∧ SH B w0 w (H' x)
/-- .. the one value v, and nothing that was there has turned. -/
def RetV (w0 : World) (v : Value) : Ending → World → Prop := fun e w => e = .returned v ∧ Below w0.heap.size w0 w

section
variable {r : Option Nat} {P : Program} {Q : Exit → Act → World → Prop} {N : Nat} {D : List Deferred} {B : Nat} {w0 : World} {L : Env} {H : Hp} {ops : Array Oper} {rest : List Oper}

theorem enter {f : FuncId} {fn : Func} {c : Code} {args : List Value} {w : World} {R : Ending → World → Prop} (hf : P.funcs[f]? = some fn) (hb : fn.body = some c) (hN : fn.ntmps = N) (hle : Nat.ble args.length N = true)
    (hS : SH B w0 w H) (h : TC none P (bodyPost P fn R) N [] B w0 (envOf 0 args) H c) : Calls P f args.toArray w R := by
  refine (callsIn_wide (n := 0)).1 (callsIn_of_wp hf hb trivial (h _ w ⟨?_, rfl, fun k v hk => ?_⟩ hS))
  · have : args.length ≤ N := by simpa using hle
    simp [hN]; omega
  · have h1 := (lk_envOf args 0 k v hk).2
    simp only [Nat.sub_zero] at h1
    have h2 := (List.getElem?_eq_some_iff.1 h1).1
    rw [Array.getElem?_append_left (by simpa using h2)]
    simpa using h1

def resSem (tmps : Array Value) : ResultVar → Sem Value
  | .tmp t => pure (tmps.getD t undef)
  | .cell x t => do loadVar t (← asAddr (tmps.getD x undef))
theorem results_eq (fn : Func) (tmps : Array Value) : results fn tmps = (do
    let vs ← fn.results.mapM (resSem tmps)
    pure (if h : vs.size = 1 then vs[0] else .tuple vs)) := by
  have : resSem tmps = (fun | .tmp t => pure (tmps.getD t undef) | .cell a t => do loadVar t (← asAddr (tmps.getD a undef))) := by
    funext x; cases x <;> rfl
  rw [this]; rfl
/-- One result. -/
def RV (P : Program) (B : Nat) (w0 : World) (L : Env) (H : Hp) (rv : ResultVar) (v : Value) : Prop :=
  ∀ (a : Act) (w : World) (N : Nat) (D : List Deferred), Fr N D L a → SH B w0 w H → (resSem a.tmps rv).run P w = .ok v w

theorem Fr.getD {N D L a t v} (h : Fr N D L a) (hl : lk L t = some v) : a.tmps.getD t undef = v := by
  have := h.get _ _ hl
  simp [Array.getD_eq_getD_getElem?, this]

theorem RV.tmp {t : Nat} {v : Value} (h : lk L t = some v) : RV P B w0 L H (.tmp t) v := fun a w N D hf _ => by
  rw [resSem, hf.getD h]; rfl
theorem RV.cell1 {t T x : Nat} {sz : Nat} {z : List Value} {b o : Nat} {cs : List Value} {v : Value} [ht : TyP P t sz false z] (hx : lk L x = some (.pointer (some ⟨b, o, none⟩)))
    (hm : (b, .cells cs T) ∈ H) (hv : takeN 1 (dropN o cs) = some [v]) : RV P B w0 L H (.cell x t) v := fun a w N D hf hs => by
  have hc := cell_of (hs.holds _ _ hm).2 o
  have h1 := takeN_some hv
  rw [dropN_eq] at h1
  have h2 : cs[o]? = some v := by
    have := congrArg (·[0]?) h1.1
    simpa [List.getElem?_take] using this.symm
  rw [h2] at hc
  rw [resSem, hf.getD hx]
  simp [asAddr, run_load1 hc]
theorem RV.celln {t T x : Nat} {sz : Nat} {z : List Value} {b o : Nat} {cs vs : List Value} [ht : TyP P t sz true z] (hx : lk L x = some (.pointer (some ⟨b, o, none⟩)))
    (hm : (b, .cells cs T) ∈ H) (hv : takeN sz (dropN o cs) = some vs) : RV P B w0 L H (.cell x t) (.agg vs.toArray) := fun a w N D hf hs => by
  have h1 := takeN_some hv
  rw [dropN_eq] at h1
  have hl : vs.length = sz := by rw [h1.1]; simp at h1 ⊢; omega
  have := run_loadn (P := P) (t := t) (b := b) (o := o) (w := w) hl (fun j v hj => by
    rw [cell_of (hs.holds _ _ hm).2]
    rw [h1.1, List.getElem?_take] at hj
    split at hj
    · simpa using hj
    · cases hj)
  rw [resSem, hf.getD hx]
  simp [asAddr, this]

theorem TQ_ret0 {fn : Func} {R : Ending → World → Prop} (hr : fn.results = #[]) (hR : ∀ w, SH B w0 w H → R (.returned (.tuple #[])) w) : TQ (bodyPost P fn R) N [] B w0 L H .ret :=
  fun a w hf hs => ⟨hf.defers, _, by simp [results, hr], hR w hs⟩
theorem TQ_end0 {fn : Func} {R : Ending → World → Prop} (hr : fn.results = #[]) (hR : ∀ w, SH B w0 w H → R (.returned (.tuple #[])) w) : TQ (bodyPost P fn R) N [] B w0 L H .normal :=
  fun a w hf hs => ⟨hf.defers, _, by simp [results, hr], hR w hs⟩
theorem TQ_ret1 {fn : Func} {R : Ending → World → Prop} {r1 : ResultVar} {v1 : Value} (hr : fn.results = #[r1]) (h1 : RV P B w0 L H r1 v1) (hR : ∀ w, SH B w0 w H → R (.returned v1) w) :
    TQ (bodyPost P fn R) N [] B w0 L H .ret := fun a w hf hs => by
  refine ⟨hf.defers, _, ?_, hR w hs⟩
  have e1 := h1 a w _ _ hf hs
  simp [results_eq, hr, e1]
theorem TQ_ret2 {fn : Func} {R : Ending → World → Prop} {r1 r2 : ResultVar} {v1 v2 : Value} (hr : fn.results = #[r1, r2]) (h1 : RV P B w0 L H r1 v1) (h2 : RV P B w0 L H r2 v2)
    (hR : ∀ w, SH B w0 w H → R (.returned (.tuple #[v1, v2])) w) : TQ (bodyPost P fn R) N [] B w0 L H .ret := fun a w hf hs => by
  refine ⟨hf.defers, _, ?_, hR w hs⟩
  have e1 := h1 a w _ _ hf hs
  have e2 := h2 a w _ _ hf hs
  simp [results_eq, hr, e1, e2]
theorem TQ_ret3 {fn : Func} {R : Ending → World → Prop} {r1 r2 r3 : ResultVar} {v1 v2 v3 : Value} (hr : fn.results = #[r1, r2, r3]) (h1 : RV P B w0 L H r1 v1) (h2 : RV P B w0 L H r2 v2) (h3 : RV P B w0 L H r3 v3)
    (hR : ∀ w, SH B w0 w H → R (.returned (.tuple #[v1, v2, v3])) w) : TQ (bodyPost P fn R) N [] B w0 L H .ret := fun a w hf hs => by
  refine ⟨hf.defers, _, ?_, hR w hs⟩
  have e1 := h1 a w _ _ hf hs
  have e2 := h2 a w _ _ hf hs
  have e3 := h3 a w _ _ hf hs
  simp [results_eq, hr, e1, e2, e3]

/-! ### Calls -/
/-- A call of function k enters its body. -/
class EntP (P : Program) (k : FuncId) : Prop where
  run : ∀ args w, (callFunc k args).run P w = .ok (.enter k args) w
theorem EntP.mk' {P : Program} {f : FuncId} {fn : Func} {c : Code} (hf : P.funcs[f]? = some fn) (hname : (fn.name == "runtime.NumGoroutine") = false) (hb : fn.body = some c) : EntP P f :=
  ⟨Go.Proofs.enters_of hf hname hb⟩
def evL (L : Env) : List Operand → Option (List Value)
  | [] => some []
  | x :: xs => match ev L x with
    | some v => match evL L xs with
      | some vs => some (v :: vs)
      | none => none
    | none => none
theorem evL_spec {a : Act} (hf : Fr N D L a) : ∀ {xs : List Operand} {vs : List Value}, evL L xs = some vs → xs.map a.eval = vs := by
  intro xs
  induction xs with
  | nil => intro vs h; simp [evL] at h; simp [h]
  | cons x xs ih =>
    intro vs h
    simp only [evL] at h
    split at h
    · rename_i v hv
      split at h
      · rename_i vs' hvs
        cases h
        simp [hf.ev hv, ih hvs]
      · cases h
    · cases h

def putE (L : Env) : Option Nat → Value → Env
  | none, _ => L
  | some d, v => (d, v) :: L
def okD (N : Nat) : Option Nat → Bool
  | none => true
  | some d => Nat.blt d N
theorem Fr.putE {a : Act} (h : Fr N D L a) {d : Option Nat} (hd : okD N d = true) (v : Value) : Fr N D (putE L d v) (a.put d v) := by
  cases d with
  | none => exact h
  | some d => exact h.put hd v

variable {d : Option Nat} {ty : TypeId} {pos : String} {aft : Array Edge}

theorem callsIn_of_calls {f : FuncId} {args : Array Value} {w : World} {R : Ending → World → Prop} (h : Calls P f args w R) : CallsIn (FW r) 0 P f args w R :=
  ((callsIn_wide (n := 0)).2 h : CallsIn Fence.wide 0 P f args w R)

/-- The general rule of a call: whatever value is called, by its run. -/
theorem TL_callR {c : Call} {k : FuncId} {av : Array Value} (hrun : ∀ a w, Fr N D L a → SH B w0 w H → (do let d ← resolve a.eval c ty; invoke d.target d.args : Sem Next).run P w = .ok (.enter k av) w) (hd : okD N d = true)
    {X : Type} (val : X → Value) (H' : X → Hp) (Φ : X → Prop) (hc : ∀ w, SH B w0 w H → Calls P k av w (RetP B w0 val H' Φ))
    (kk : ∀ x, Φ x → TL r P Q N D B w0 (putE L d (val x)) (H' x) ops rest) : TL r P Q N D B w0 L H ops (⟨d, .call c, ty, pos, aft, none⟩ :: rest) :=
  TL_run rfl (by simp) fun a w hf hs => by
    have h1 := hrun a w hf hs
    simp only [execOp]
    rw [h1]
    refine ⟨fun h => by simp [FW] at h, (callsIn_of_calls (hc w hs)).mono ?_⟩
    rintro e w' ⟨x, hx, rfl, hs'⟩
    exact kk x hx _ _ (hf.putE hd _) hs'

theorem run_call {a : Act} {callee : Operand} {args : List Operand} {at_ : Array TypeId} {k : FuncId} {vs cl : List Value} (hf : Fr N D L a) (hx : ev L callee = some (.func (.func k) #[] cl.toArray)) (ha : evL L args = some vs)
    [hent : EntP P k] (w : World) : (do let d ← resolve a.eval { callee := .value callee, args := args.toArray, argTypes := at_ } ty; invoke d.target d.args : Sem Next).run P w = .ok (.enter k (vs ++ cl).toArray) w := by
  have := hent.run ((vs ++ cl).toArray) w
  simp only [resolve, hf.ev hx, Deferred.ofValue, List.map_toArray, evL_spec hf ha, Sem.run_bind, Sem.run_pure, Result.andThen, invoke]
  simpa using this

theorem TL_call {callee : Operand} {args : List Operand} {at_ : Array TypeId} {k : FuncId} {vs cl : List Value} (hx : ev L callee = some (.func (.func k) #[] cl.toArray)) (ha : evL L args = some vs) [hent : EntP P k] (hd : okD N d = true)
    {X : Type} (val : X → Value) (H' : X → Hp) (Φ : X → Prop) (hc : ∀ w, SH B w0 w H → Calls P k (vs ++ cl).toArray w (RetP B w0 val H' Φ))
    (kk : ∀ x, Φ x → TL r P Q N D B w0 (putE L d (val x)) (H' x) ops rest) :
    TL r P Q N D B w0 L H ops (⟨d, .call { callee := .value callee, args := args.toArray, argTypes := at_ }, ty, pos, aft, none⟩ :: rest) :=
  TL_callR (fun _ w hf _ => run_call hf hx ha w) hd val H' Φ hc kk

/-- .. by a contract that speaks of the callee's own new blocks. -/
theorem TL_callN {callee : Operand} {args : List Operand} {at_ : Array TypeId} {k : FuncId} {vs cl : List Value} (hx : ev L callee = some (.func (.func k) #[] cl.toArray)) (ha : evL L args = some vs) [hent : EntP P k] (hd : okD N d = true)
    {X : Type} {val : X → Value} {hp : X → Hp} {Φ : X → Prop} (hc : ∀ w, SH B w0 w H → Calls P k (vs ++ cl).toArray w (RetP w.heap.size w val hp Φ))
    (kk : ∀ x, Φ x → TL r P Q N D B w0 (putE L d (val x)) (hp x ++ H) ops rest) :
    TL r P Q N D B w0 L H ops (⟨d, .call { callee := .value callee, args := args.toArray, argTypes := at_ }, ty, pos, aft, none⟩ :: rest) :=
  TL_call hx ha hd val (fun x => hp x ++ H) Φ (fun w hs => (hc w hs).mono fun _ _ ⟨x, hx, he, hs'⟩ => ⟨x, hx, he, hs.join hs'⟩) kk

/-- .. by a contract that names the value, and keeps all that was there. -/
theorem TL_callV {callee : Operand} {args : List Operand} {at_ : Array TypeId} {k : FuncId} {vs cl : List Value} {v : Value} (hx : ev L callee = some (.func (.func k) #[] cl.toArray)) (ha : evL L args = some vs) [hent : EntP P k] (hd : okD N d = true)
    (hc : ∀ w, SH B w0 w H → Calls P k (vs ++ cl).toArray w (RetV w v))
    (kk : TL r P Q N D B w0 (putE L d v) H ops rest) :
    TL r P Q N D B w0 L H ops (⟨d, .call { callee := .value callee, args := args.toArray, argTypes := at_ }, ty, pos, aft, none⟩ :: rest) :=
  TL_call hx ha hd (fun _ : Unit => v) (fun _ => H) (fun _ => True) (fun w hs => (hc w hs).mono fun _ _ ⟨he, hb⟩ => ⟨(), trivial, he, hs.ext hb⟩) (fun _ _ => kk)

/-! ### Loops -/
theorem least_nat {p : Nat → Prop} (h : ∃ n, p n) : ∃ n, p n ∧ ∀ m, p m → n ≤ m := by
  obtain ⟨n, hn⟩ := h
  induction n using Nat.strongRecOn with
  | _ n ih =>
    by_cases hx : ∃ m, m < n ∧ p m
    · obtain ⟨m, hm, hp⟩ := hx; exact ih m hm hp
    · exact ⟨n, hn, fun m hm => Nat.le_of_not_lt fun hlt => hx ⟨m, hlt, hm⟩⟩
theorem TC_loop {c : Code} {σ : Type} (p : σ → Prop) (Lx : σ → Env) (Hx : σ → Hp) (μ : σ → Nat) (x0 : σ) (h0 : p x0) (hL : Sub (Lx x0) L) (hH : ∀ w, SH B w0 w H → SH B w0 w (Hx x0))
    (round : ∀ x, p x → TC r P (Exit.then (fun a w => ∃ y, p y ∧ μ y < μ x ∧ Fr N D (Lx y) a ∧ SH B w0 w (Hx y)) Q) N D B w0 (Lx x) (Hx x) c) : TC r P Q N D B w0 L H (.loop c) := by
  intro a w hf hs
  classical
  let I : Act → World → σ → Prop := fun a w x => p x ∧ Fr N D (Lx x) a ∧ SH B w0 w (Hx x)
  let m : Act → World → Nat := fun a w => if h : ∃ n, ∃ x, I a w x ∧ μ x = n then Classical.choose (least_nat h) else 0
  refine wpIn_loop (fun a w => ∃ x, I a w x) m ⟨x0, h0, hf.sub hL, hH w hs⟩ ?_
  rintro a w hI
  have hex : ∃ n, ∃ x, I a w x ∧ μ x = n := let ⟨x, hx⟩ := hI; ⟨μ x, x, hx, rfl⟩
  obtain ⟨x, ⟨hp, hfx, hsx⟩, hmu⟩ := (Classical.choose_spec (least_nat hex)).1
  have hm : m a w = μ x := by simp only [m, dif_pos hex]; exact hmu.symm
  refine wpIn_mono (round x hp _ _ hfx hsx) fun e a' w' hq => ?_
  cases e with
  | normal =>
    obtain ⟨y, hy, hlt, hfy, hsy⟩ := hq
    have hex' : ∃ n, ∃ x, I a' w' x ∧ μ x = n := ⟨μ y, y, ⟨hy, hfy, hsy⟩, rfl⟩
    refine ⟨⟨y, hy, hfy, hsy⟩, ?_⟩
    have : m a' w' ≤ μ y := by simp only [m, dif_pos hex']; exact (Classical.choose_spec (least_nat hex')).2 _ ⟨y, ⟨hy, hfy, hsy⟩, rfl⟩
    show m a' w' < m a w
    omega
  | _ => exact hq

/-- A round's end. -/
theorem TQ_round {σ : Type} {p : σ → Prop} {Lx : σ → Env} {Hx : σ → Hp} {μ : σ → Nat} {n : Nat} (y : σ) (hy : p y) (hlt : μ y < n) (hL : Sub (Lx y) L) (hH : ∀ w, SH B w0 w H → SH B w0 w (Hx y)) :
    TQ (Exit.then (fun a w => ∃ y, p y ∧ μ y < n ∧ Fr N D (Lx y) a ∧ SH B w0 w (Hx y)) Q) N D B w0 L H .normal :=
  fun a w hf hs => ⟨y, hy, hlt, hf.sub hL, hH w hs⟩

/-- Cutting: what follows is walked from a state named anew. -/
theorem TL_cut {σ : Type} (p : σ → Prop) (Lx : σ → Env) (Hx : σ → Hp) (x : σ) (hx : p x) (hL : Sub (Lx x) L) (hH : ∀ w, SH B w0 w H → SH B w0 w (Hx x)) (h : ∀ x, p x → TL r P Q N D B w0 (Lx x) (Hx x) ops rest) : TL r P Q N D B w0 L H ops rest :=
  (h x hx).weaken hL hH
/-- A piece of code whose ways meet again: 'TC_seq' with a state in the middle. -/
theorem TC_mid {x y : Code} {σ : Type} (p : σ → Prop) (Lx : σ → Env) (Hx : σ → Hp) (h1 : TC r P (Exit.then (fun a w => ∃ s, p s ∧ Fr N D (Lx s) a ∧ SH B w0 w (Hx s)) Q) N D B w0 L H x)
    (h2 : ∀ s, p s → TC r P Q N D B w0 (Lx s) (Hx s) y) : TC r P Q N D B w0 L H (.seq x y) := fun a w hf hs =>
  wpIn_seq (wpIn_mono (h1 a w hf hs) fun e a' w' hq => by
    cases e with
    | normal => obtain ⟨s, hp, hf', hs'⟩ := hq; exact h2 s hp _ _ hf' hs'
    | _ => exact hq)
theorem TQ_mid {σ : Type} {p : σ → Prop} {Lx : σ → Env} {Hx : σ → Hp} (s : σ) (hs : p s) (hL : Sub (Lx s) L) (hH : ∀ w, SH B w0 w H → SH B w0 w (Hx s)) :
    TQ (Exit.then (fun a w => ∃ s, p s ∧ Fr N D (Lx s) a ∧ SH B w0 w (Hx s)) Q) N D B w0 L H .normal :=
  fun a w hf hss => ⟨s, hs, hf.sub hL, hH w hss⟩

/-! ### Splitting on a guard -/
theorem TL_gsplit_dec {d' : Option Nat} {op : Op} {j dj : Nat} {b : Bool} {p : Prop} {_ : Decidable p} (_hj : ((ops[j]?).bind (·.dst)) = some dj) (hl : lk L dj = some (.bool (decide p)))
    (h1 : p → TL r P Q N D B w0 ((dj, .bool true) :: L) H ops (⟨d', op, ty, pos, aft, some (j, b)⟩ :: rest)) (h2 : ¬ p → TL r P Q N D B w0 ((dj, .bool false) :: L) H ops (⟨d', op, ty, pos, aft, some (j, b)⟩ :: rest)) :
    TL r P Q N D B w0 L H ops (⟨d', op, ty, pos, aft, some (j, b)⟩ :: rest) := by
  by_cases hp : p
  · exact (h1 hp).weaken (Sub.cons (by rw [hl]; simp [hp]) (Sub.refl _)) (fun _ h => h)
  · exact (h2 hp).weaken (Sub.cons (by rw [hl]; simp [hp]) (Sub.refl _)) (fun _ h => h)
theorem TL_gsplit {d' : Option Nat} {op : Op} {j dj : Nat} {b : Bool} {p : Bool} (_hj : ((ops[j]?).bind (·.dst)) = some dj) (hl : lk L dj = some (.bool p))
    (h1 : p = true → TL r P Q N D B w0 ((dj, .bool true) :: L) H ops (⟨d', op, ty, pos, aft, some (j, b)⟩ :: rest)) (h2 : p = false → TL r P Q N D B w0 ((dj, .bool false) :: L) H ops (⟨d', op, ty, pos, aft, some (j, b)⟩ :: rest)) :
    TL r P Q N D B w0 L H ops (⟨d', op, ty, pos, aft, some (j, b)⟩ :: rest) := by
  cases p
  · exact (h2 rfl).weaken (Sub.cons hl (Sub.refl _)) (fun _ h => h)
  · exact (h1 rfl).weaken (Sub.cons hl (Sub.refl _)) (fun _ h => h)

end

end Go.Eng
