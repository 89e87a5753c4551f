/- The engine, part 11: ranges over functions, whose rounds all end normally. -/
import Derived.Test.YtccgplomnjpniaaEngS
import Derived.RangeFuncLeaves
import Derived.RangeFuncRecord
import Derived.RangeFuncIn
namespace Go.Eng
open Go Go.RowKit

/-- The calls of yield that an iterator may make: round j is handed xs j, and turns the caller's blocks from Y j to Y (j + 1). -/
def Yld (P : Program) (B : Nat) (w0 : World) (l n : Nat) (xs : Nat → List Value) (Y : Nat → Hp) : Prop :=
  ∀ j, j < n → ∀ (G : Hp) (w : World), SH B w0 w (Y j ++ G) → ∃ fn tmps as_ bd, (Instr.yield l (xs j).toArray).run P w = .ok (.round l fn tmps as_ bd) w ∧
    RoundIn (FW none) 0 P l fn tmps as_ bd w (fun e w' => e = .returned (.bool true) ∧ SH B w0 w' (Y (j + 1) ++ G))

theorem SH.putObj {B : Nat} {w0 w : World} {H H' : Hp} {l : Nat} {o : Obj} (o' : Obj) (h : SH B w0 w H) (hu : Upd H l (.obj o) (.obj o') H') : SH B w0 (w.putObj l o') H' := by
  have hlt := h.lt hu.mem
  exact h.upd hu rfl rfl rfl World.putObj_size (World.putObj_heap_same hlt) (fun c hc => World.putObj_heap_other hc)

section
variable {r : Option Nat} {P : Program} {Q : Exit → Act → World → Prop} {N : Nat} {D : List Deferred} {B : Nat} {w0 : World} {L : Env} {H : Hp} {ops : Array Oper} {rest : List Oper}
variable {d : Option Nat} {ty : TypeId} {pos : String} {aft : Array Edge}

theorem TL_yield {callee : Operand} {args : List Operand} {at_ : Array TypeId} {l n : Nat} {xs : Nat → List Value} {Y : Nat → Hp} {vs : List Value} (hx : ev L callee = some (.func (.yield l) #[] #[])) (ha : evL L args = some vs) (hd : okD N d = true) (hy : Yld P B w0 l n xs Y) (j : Nat) (G : Hp)
    (hj : j < n) (hvs : vs = xs j) (hp : (Y j ++ G).Perm H)
    (k : TL none P Q N D B w0 (putE L d (.bool true)) (Y (j + 1) ++ G) ops rest) :
    TL none P Q N D B w0 L H ops (⟨d, .call { callee := .value callee, args := args.toArray, argTypes := at_ }, ty, pos, aft, none⟩ :: rest) :=
  TL_run rfl (by simp) fun a w hf hs => by
    obtain ⟨fn, tmps, as_, bd, h1, h2⟩ := hy j hj G w (hs.perm hp)
    have e : (execOp a.eval ⟨d, .call { callee := .value callee, args := args.toArray, argTypes := at_ }, ty, pos, aft, none⟩).run P w = .ok (.round l fn tmps as_ bd) w := by
      simp only [execOp, resolve, hf.ev hx, Deferred.ofValue, List.map_toArray, evL_spec hf ha, Sem.run_bind, Sem.run_pure, Result.andThen, invoke, hvs]
      simpa using h1
    rw [e]
    refine ⟨fun h => by simp [FW] at h, h2.mono ?_⟩
    rintro e w' ⟨rfl, hs'⟩
    exact k _ _ (hf.putE hd _) hs'

/-- The environment of a round. -/
def envR : List Nat → List Value → Env → Env
  | p :: ps, v :: vs, L => envR ps vs ((p, v) :: L)
  | _, _, L => L
theorem Fr.round {ps : List Nat} {vs : List Value} {a : Act} (h : Fr N D L a) (hN : ∀ p ∈ ps, p < N) : Fr N [] (envR ps vs L) { tmps := (ps.toArray.zip vs.toArray).foldl (fun t (p, v) => t.setIfInBounds p v) a.tmps, defers := [] } := by
  have key : ∀ (ps : List Nat) (vs : List Value) (L : Env) (t : Array Value), (∀ p ∈ ps, p < N) → Fr N [] L { tmps := t, defers := [] } → Fr N [] (envR ps vs L) { tmps := (ps.zip vs).foldl (fun t (p, v) => t.setIfInBounds p v) t, defers := [] } := by
    intro ps
    induction ps with
    | nil => intro vs L t _ h; simpa [envR] using h
    | cons p ps ih =>
      intro vs L t hp h
      cases vs with
      | nil => simpa [envR] using h
      | cons v vs =>
        refine ih vs _ _ (fun q hq => hp q (List.mem_cons_of_mem _ hq)) ?_
        have := h.put (d := p) (by simpa [Nat.blt_eq] using hp p List.mem_cons_self) v
        exact this
  have := key ps vs L a.tmps hN ⟨h.size, rfl, h.get⟩
  rw [show (ps.toArray.zip vs.toArray) = (ps.zip vs).toArray by simp, ← Array.foldl_toList]
  exact this

/-- What a round owes at its body's end. -/
def bodyQ (B : Nat) (w0 : World) (H' : Hp) : Exit → Act → World → Prop := fun e _ w => e = .normal ∧ SH B w0 w H'
theorem TQ_body {H' : Hp} (hH : ∀ w, SH B w0 w H → SH B w0 w H') : TQ (bodyQ B w0 H') N D B w0 L H .normal := fun _ w _ hs => ⟨rfl, hH w hs⟩
def mark (D : Nat) : Deferred := { target := .collected D, args := #[] }
/-- What a round owes at its assignments' end: then the record is busy, then the body. -/
def asgQ (P : Program) (B : Nat) (w0 : World) (l : Nat) (body : Code) (H' : Hp) : Exit → Act → World → Prop :=
  Exit.then (fun a₁ w₁ => ∃ w₂, (Instr.beginRound l).run P w₁ = .ok () w₂ ∧ body.wpIn ((FW none).inRound l) 0 P (bodyQ B w0 H') a₁ w₂) (fun _ _ _ => False)
def recO (rec : Loop) (st : LoopState) : Obj := .loop { rec with state := st }
theorem TQ_asg {l : Nat} {body : Code} {H' : Hp} {rec : Loop} {Hb : Hp} (hu : Upd H l (.obj (recO rec .ready)) (.obj (recO rec .busy)) Hb) (h : TC (some l) P (bodyQ B w0 H') N D B w0 L Hb body) : TQ (asgQ P B w0 l body H') N D B w0 L H .normal := fun a w hf hs => by
  have hl : w.heap[l]? = some (.loop { rec with state := .ready }) := (hs.holds _ _ hu.mem).2
  exact ⟨_, run_beginRound hl rfl, h a _ hf (hs.putObj _ hu)⟩

/-- A range over a function, outermost. -/
theorem TC_range {g : Operand} {ps : List Nat} {assign body : Code} {k : FuncId} {cl : List Value} [hent : EntP P k] (hg : ev L g = some (.func (.func k) #[] cl.toArray)) (hN : ps.all (fun p => Nat.blt p N) = true) (n : Nat) (xs : Nat → List Value) (Z : Nat → Hp)
    (hx : ∀ j, (xs j).length = ps.length) (h0 : ∀ w, SH B w0 w H → SH B w0 w (Z 0))
    (hround : ∀ (l Dd : Nat) (rec : Loop) (j : Nat) (G : Hp), j < n → TC (some l) P (asgQ P B w0 l body ((l, .obj (recO rec .busy)) :: (Dd, .obj (.deferred (some []))) :: (Z (j + 1) ++ G))) N [] B w0 (envR ps (xs j) L) ((l, .obj (recO rec .ready)) :: (Dd, .obj (.deferred (some []))) :: (Z j ++ G)) assign)
    (hiter : ∀ (l : Nat) (Y : Nat → Hp) (G : Hp), (∀ j, Y j = G ++ Z j) → Yld P B w0 l n xs Y → ∀ w, SH B w0 w (Y 0) → Calls P k (.func (.yield l) #[] #[] :: cl).toArray w (RetP B w0 (fun _ : Unit => .tuple #[]) (fun _ => Y n) (fun _ => True)))
    (hdone : ∀ Dd, TQ Q N (mark Dd :: D) B w0 L ((Dd, .obj (.deferred (some []))) :: Z n) .normal) : TC none P Q N D B w0 L H (.rangeFunc g ps.toArray assign body) := fun a w hf hs => by
  refine wpIn_rangeFunc ?_
  intro fn hfn
  have hpn : ∀ p ∈ ps, p < N := fun p hp => by
    have := List.all_eq_true.1 hN p hp
    simpa [Nat.blt_eq] using this
  let rec_ : Loop := { state := .ready, pending := none, fn, tmps := a.tmps, params := ps.toArray, assign, body, defers := w.heap.size }
  let W1 := (w.alloc (.deferred (some []))).alloc (.loop rec_)
  have hsz : (w.alloc (.deferred (some []))).heap.size = w.heap.size + 1 := by simp
  have hs1 : SH B w0 W1 ((w.heap.size + 1, .obj (recO rec_ .ready)) :: (w.heap.size, .obj (.deferred (some []))) :: Z 0) := by
    have h1 := (h0 w hs).alloc (.obj (.deferred (some [])))
    have h2 := h1.alloc (.obj (recO rec_ .ready))
    simp only [Blk.toObj] at h2
    rw [hsz] at h2
    exact h2
  refine ⟨w.heap.size + 1, [mark w.heap.size], W1, { target := .fn (.func k) cl.toArray, args := #[.func (.yield (w.heap.size + 1)) #[] #[]] }, W1, k,
    #[.func (.yield (w.heap.size + 1)) #[] #[]] ++ cl.toArray, W1, ?_, ?_, ?_, ?_, fun h => by simp [FW] at h, ?_⟩
  · exact run_enterLoop_outer _ _ _ _ _
  · simp only [resolve, hf.ev hg]
    simp [Deferred.ofValue, Act.eval]
  · intro f' _; trivial
  · simp [invoke, hent.run]
  · have hY : Yld P B w0 (w.heap.size + 1) n xs (fun j => [(w.heap.size + 1, .obj (recO rec_ .ready)), (w.heap.size, .obj (.deferred (some [])))] ++ Z j) := by
      intro j hj G W hW
      have hl : W.heap[w.heap.size + 1]? = some (.loop rec_) := (hW.holds (w.heap.size + 1) (.obj (recO rec_ .ready)) List.mem_cons_self).2
      refine ⟨fn, _, assign, body, run_yield hl (by simp [hx, rec_]), roundIn_of_wpIn hfn ?_⟩
      have hR := hround (w.heap.size + 1) w.heap.size rec_ j G hj { tmps := (ps.toArray.zip (xs j).toArray).foldl (fun t (p, v) => t.setIfInBounds p v) a.tmps, defers := [] } W (hf.round hpn) hW
      refine wpIn_mono hR fun e a₁ w₁ hq => ?_
      cases e with
      | normal =>
        obtain ⟨w₂, hb, hbody⟩ := hq
        refine ⟨w₂, hb, wpIn_mono hbody fun e a₂ w₃ hq2 => ?_⟩
        obtain ⟨rfl, hs3⟩ := hq2
        have hl3 : w₃.heap[w.heap.size + 1]? = some (.loop { rec_ with state := .busy }) := (hs3.holds (w.heap.size + 1) (.obj (recO rec_ .busy)) List.mem_cons_self).2
        refine ⟨_, _, run_endRound none hl3, rfl, ?_⟩
        exact hs3.putObj (o := recO rec_ .busy) (recO rec_ .ready) Upd.head
      | _ => exact hq
    have hc := hiter (w.heap.size + 1) _ [(w.heap.size + 1, .obj (recO rec_ .ready)), (w.heap.size, .obj (.deferred (some [])))] (fun j => rfl) hY W1 hs1
    have e : #[Value.func (.yield (w.heap.size + 1)) #[] #[]] ++ cl.toArray = (.func (.yield (w.heap.size + 1)) #[] #[] :: cl).toArray := by simp
    rw [e]
    refine (callsIn_of_calls hc).mono ?_
    rintro e' w3 ⟨_, _, rfl, hs3⟩
    have hl3 : w3.heap[w.heap.size + 1]? = some (.loop rec_) := (hs3.holds (w.heap.size + 1) (.obj (recO rec_ .ready)) List.mem_cons_self).2
    refine ⟨none, _, run_endLoop hl3 (by simp [rec_]), ?_⟩
    refine hdone w.heap.size _ _ ⟨hf.size, by simp [hf.defers], hf.get⟩ ?_
    have := hs3.putObj (o := recO rec_ .ready) (recO rec_ .exhausted) Upd.head
    exact this.sub (List.Sublist.cons _ (List.Sublist.refl _))
end

section
variable {P : Program} {N : Nat} {B : Nat} {w0 : World} {L : Env} {H : Hp}
theorem enterM {f : FuncId} {fn : Func} {c : Code} {args : List Value} {w : World} {R : Ending → World → Prop} (hf : P.funcs[f]? = some fn) (hb : fn.body = some c) (hN : fn.ntmps = N) (hle : Nat.ble args.length N = true)
    (hS : SH B w0 w H) (h : TC none P (bodyPostM (FW none) 0 P fn R) N [] B w0 (envOf 0 args) H c) : Calls P f args.toArray w R := by
  refine (callsIn_wide (n := 0)).1 (callsIn_of_wp_marks hf hb trivial (h _ w ⟨?_, rfl, fun k v hk => ?_⟩ hS))
  · have : args.length ≤ N := by simpa using hle
    simp [hN]; omega
  · have h1 := (lk_envOf args 0 k v hk).2
    simp only [Nat.sub_zero] at h1
    have h2 := (List.getElem?_eq_some_iff.1 h1).1
    rw [Array.getElem?_append_left (by simpa using h2)]
    simpa using h1
/-- The results, as one value. -/
def resVs (P : Program) (B : Nat) (w0 : World) (L : Env) (H : Hp) : List ResultVar → List Value → Prop
  | [], [] => True
  | r :: rs, v :: vs => RV P B w0 L H r v ∧ resVs P B w0 L H rs vs
  | _, _ => False
def oneOr : List Value → Value
  | [v] => v
  | vs => .tuple vs.toArray
theorem run_resVs {fn : Func} {rs : List ResultVar} {vs : List Value} (hr : fn.results = rs.toArray) (h : resVs P B w0 L H rs vs) {a : Act} {w : World} {D : List Deferred} (hf : Fr N D L a) (hs : SH B w0 w H) : (results fn a.tmps).run P w = .ok (oneOr vs) w := by
  rw [results_eq, hr]
  have key : ∀ (rs : List ResultVar) (vs : List Value), resVs P B w0 L H rs vs → (rs.mapM (resSem a.tmps)).run P w = .ok vs w := by
    intro rs
    induction rs with
    | nil => intro vs h; cases vs with
      | nil => rfl
      | cons => exact h.elim
    | cons r rs ih => intro vs h; cases vs with
      | nil => exact h.elim
      | cons v vs =>
        have h1 := h.1 a w _ _ hf hs
        have h2 := ih vs h.2
        simp [List.mapM_cons, h1, h2]
  have h1 := key rs vs h
  have h2 : (rs.toArray.mapM (resSem a.tmps)).run P w = .ok vs.toArray w := by
    rw [List.mapM_toArray, Sem.run_map, h1]; rfl
  simp only [Sem.run_bind, h2, Result.andThen, Sem.run_pure]
  congr 1
  cases vs with
  | nil => simp [oneOr]
  | cons v vs => cases vs with
    | nil => simp [oneOr]
    | cons u vs => simp [oneOr]
/-- A function that held one range over a function leaves. -/
theorem TQ_leaveM {fn : Func} {R : Ending → World → Prop} {Dd : Nat} {e : Exit} {rs : List ResultVar} {vs : List Value} {H' : Hp} (he : e = .ret ∨ e = .normal) (hu : Upd H Dd (.obj (.deferred (some []))) (.obj (.deferred none)) H')
    (hr : fn.results = rs.toArray) (h1 : resVs P B w0 L H' rs vs) (hR : ∀ w, SH B w0 w H' → R (.returned (oneOr vs)) w) : TQ (bodyPostM (FW none) 0 P fn R) N [mark Dd] B w0 L H e := fun a w hf hs => by
  have key : LeavesInM (FW none) 0 P fn a.tmps R [mark Dd] .returning w := by
    refine ⟨by simp, .inl ⟨Dd, _, rfl, run_takeDeferred (hs.holds _ _ hu.mem).2, ?_⟩⟩
    have hs' := hs.putObj _ hu
    exact ⟨_, run_resVs hr h1 hf hs', hR _ hs'⟩
  rcases he with rfl | rfl
  · show LeavesInM _ _ _ _ _ _ a.defers _ _
    rw [hf.defers]; exact key
  · show LeavesInM _ _ _ _ _ _ a.defers _ _
    rw [hf.defers]; exact key
end
end Go.Eng
