/- The engine: arithmetic that may wrap. The engine: short forms for what lays a block. -/
import Derived.Test.YtkpkebpofpcmaaaGreatDoorEngX
namespace Go.Eng
open Go Go.RowKit
def wr (x : Int) : Int := IntKind.i64.wrap x
theorem wr_of {n : Int} (h : -9223372036854775808 ≤ n ∧ n ≤ 9223372036854775807) : wr n = n := wrap_i64_of h
theorem pmA {ob G H A : Hp} (h : (ob ++ G).Perm H) : (ob ++ (A ++ G)).Perm (A ++ H) := (List.perm_append_comm_assoc ob A G).trans (h.append_left A)
theorem su {p : Prop} (h : p := by repeat (first | exact List.Sublist.refl _ | refine List.Sublist.append_left ?_ _ | apply List.Sublist.cons_cons | apply List.Sublist.cons | refine List.sublist_append_of_sublist_right ?_ | apply List.nil_sublist)) : p := h
section
variable {r : Option Nat} {P : Program} {Q : Exit → Act → World → Prop} {N : Nat} {D : List Deferred} {B : Nat} {w0 : World} {L : Env} {H : Hp} {ops : Array Oper} {rest : List Oper}
variable {d : Nat} {ty : TypeId} {pos : String} {aft : Array Edge}
theorem TC_he {c : Code} {H' : Hp} (e : H = H') (h : TC r P Q N D B w0 L H' c) : TC r P Q N D B w0 L H c := e ▸ h
theorem TL_addW {t t' : TypeId} {x y : Operand} {m n : Int} (hd : Nat.blt d N = true) (hx : ev L x = some (.int .i64 m)) (hy : ev L y = some (.int .i64 n))
    (k : TL r P Q N D B w0 ((d, .int .i64 (wr (m + n))) :: L) H ops rest) : TL r P Q N D B w0 L H ops (⟨some d, .binOp .add t x y t', ty, pos, aft, none⟩ :: rest) :=
  TL_arith hd hx hy (fun w => ⟨rfl, by simp [Go.binOp, Op.intArith, wr]⟩) k
theorem TL_subW {t t' : TypeId} {x y : Operand} {m n : Int} (hd : Nat.blt d N = true) (hx : ev L x = some (.int .i64 m)) (hy : ev L y = some (.int .i64 n))
    (k : TL r P Q N D B w0 ((d, .int .i64 (wr (m - n))) :: L) H ops rest) : TL r P Q N D B w0 L H ops (⟨some d, .binOp .sub t x y t', ty, pos, aft, none⟩ :: rest) :=
  TL_arith hd hx hy (fun w => ⟨rfl, by simp [Go.binOp, Op.intArith, wr]⟩) k
theorem TL_mulW {t t' : TypeId} {x y : Operand} {m n : Int} (hd : Nat.blt d N = true) (hx : ev L x = some (.int .i64 m)) (hy : ev L y = some (.int .i64 n))
    (k : TL r P Q N D B w0 ((d, .int .i64 (wr (m * n))) :: L) H ops rest) : TL r P Q N D B w0 L H ops (⟨some d, .binOp .mul t x y t', ty, pos, aft, none⟩ :: rest) :=
  TL_arith hd hx hy (fun w => ⟨rfl, by simp [Go.binOp, Op.intArith, wr]⟩) k
theorem TL_quoW {t t' : TypeId} {x y : Operand} {m n : Int} (hd : Nat.blt d N = true) (hx : ev L x = some (.int .i64 m)) (hy : ev L y = some (.int .i64 n)) (hn : n ≠ 0)
    (k : TL r P Q N D B w0 ((d, .int .i64 (wr (m.tdiv n))) :: L) H ops rest) : TL r P Q N D B w0 L H ops (⟨some d, .binOp .quo t x y t', ty, pos, aft, none⟩ :: rest) :=
  TL_arith hd hx hy (fun w => ⟨rfl, by simp [Go.binOp, Op.intDiv, hn, wr]⟩) k
theorem TL_negW {t : TypeId} {x : Operand} {m : Int} (hd : Nat.blt d N = true) (hx : ev L x = some (.int .i64 m))
    (k : TL r P Q N D B w0 ((d, .int .i64 (wr (-m))) :: L) H ops rest) : TL r P Q N D B w0 L H ops (⟨some d, .unOp .neg t x, ty, pos, aft, none⟩ :: rest) :=
  TL_val (by simp) hd _ (fun a w hf _ => by simp [execOp, hf.ev hx, Op.unary, Op.intArith, wr]) k
/-- One step of wrapping arithmetic, where plain steps do not know the range. -/
theorem wo {A C : Prop} (k : A) (h : Hd A → C := by first | exact fun g => TL_mulW rfl rfl rfl g.h | exact fun g => TL_addW rfl rfl rfl g.h | exact fun g => TL_subW rfl rfl rfl g.h | exact fun g => TL_negW rfl rfl g.h | exact fun g => TL_quoW rfl rfl rfl (by decide) g.h) : C := h ⟨k⟩
theorem run_lookupOk {t kt e : TypeId} {kd : IntKind} [hm : MapP P t kt e] [hk : IntP P kt kd] {b : Nat} {es : Array MapEntry} {clk : Nat} {f : Int → Option Value} (hr : MR kd es.toList f) {key : Int} {z : Value} {w : World} (hb : w.heap[b]? = some (.map es clk)) (hz : (zeroValue e).run P w = .ok z w) :
    (Instr.lookup t (.map (some b)) (.int kd key) true).run P w = .ok (.tuple #[(f key).getD z, .bool (f key).isSome]) w := by
  have hget : (getObj b).run P w = .ok (.map es clk) w := by simp [getObj, Sem.run, hb]
  have hg := hr.get key
  rcases findNow_int key es.toList 0 hr.keys with ⟨j, x, h1, h2, h3, h4, h5⟩ | ⟨h1, h2, h3⟩
  · rw [h3] at hg
    simp [Instr.lookup, run_underlying hm.u, hget, run_checkKey_int, Instr.findKey, run_underlying hk.u, h4, ← hg]
  · rw [h1] at hg
    simp [Instr.lookup, run_underlying hm.u, hget, run_checkKey_int, Instr.findKey, run_underlying hk.u, h2, ← hg, hz]
/-- A look-up that tells whether the key is there. -/
theorem TL_lookupOk {t kt e : TypeId} {kd : IntKind} {x y : Operand} [hm : MapP P t kt e] [hk : IntP P kt kd] {b : Nat} {es : Array MapEntry} {clk : Nat} {f : Int → Option Value} {key : Int} {z v : Value} {p : Bool} (hd : Nat.blt d N = true)
    (hx : ev L x = some (.map (some b))) (hy : ev L y = some (.int kd key)) (hb : (b, .obj (.map es clk)) ∈ H) (hr : MR kd es.toList f) (hze : ∀ w, (zeroValue e).run P w = .ok z w) (hv : (f key).getD z = v) (hp : (f key).isSome = p)
    (k : TL r P Q N D B w0 ((d, .tuple [v, .bool p].toArray) :: L) H ops rest) : TL r P Q N D B w0 L H ops (⟨some d, .lookup t x y true, ty, pos, aft, none⟩ :: rest) :=
  TL_val (by simp) hd _ (fun a w hf hs => by
    have h := run_lookupOk (P := P) (t := t) hr (key := key) (hs.holds b _ hb).2 (hze w)
    rw [hv, hp] at h
    simp [execOp, hf.ev hx, hf.ev hy, h]) k
/-- An element of an array with two cells. -/
theorem ra {A C : Prop} (k : A) (h : Hd A → C := by first | exact fun g => TL_indexAddrA 0 rfl rfl rfl rfl (by decide) g.h | exact fun g => TL_indexAddrA 1 rfl rfl rfl rfl (by decide) g.h) : C := h ⟨k⟩
end
end Go.Eng
/- The engine: a range over a function, which a return within its body ends. -/
namespace Go.Eng
open Go Go.RowKit
def YldX {σ : Type} (P : Program) (B : Nat) (w0 : World) (l n : Nat) (xs : Nat → List Value) (p : Nat → σ → Prop) (Y : Nat → σ → Hp) (bs : Nat → Bool) : Prop :=
  ∀ j x, j < n → p j x → ∀ (G : Hp) (w : World), SH B w0 w (Y j x ++ G) → ∃ fn tmps as_ bd, (Instr.yield l (xs j).toArray).run P w = .ok (.round l fn tmps as_ bd) w ∧
    RoundIn (FW none) 0 P l fn tmps as_ bd w (fun e w' => e = .returned (.bool (bs j)) ∧ ∃ y, p (j + 1) y ∧ SH B w0 w' (Y (j + 1) y ++ G))
section
variable {r : Option Nat} {P : Program} {Q : Exit → Act → World → Prop} {N : Nat} {D : List Deferred} {B : Nat} {w0 : World} {L : Env} {H : Hp} {ops : Array Oper} {rest : List Oper}
variable {d : Option Nat} {ty : TypeId} {pos : String} {aft : Array Edge}
theorem TL_yieldX {σ : Type} {callee : Operand} {args : List Operand} {at_ : Array TypeId} {l n : Nat} {xs : Nat → List Value} {p : Nat → σ → Prop} {Y : Nat → σ → Hp} {bs : Nat → Bool} {vs : List Value} (hx : ev L callee = some (.func (.yield l) #[] #[])) (ha : evL L args = some vs) (hd : okD N d = true) (hy : YldX P B w0 l n xs p Y bs) (j : Nat) (x : σ) (G : Hp)
    (hj : j < n) (hpx : p j x) (hvs : vs = xs j) (hp : (Y j x ++ G).Perm H)
    (k : ∀ y, p (j + 1) y → TL none P Q N D B w0 (putE L d (.bool (bs j))) (Y (j + 1) y ++ G) ops rest) :
    TL none P Q N D B w0 L H ops (⟨d, .call { callee := .value callee, args := args.toArray, argTypes := at_ }, ty, pos, aft, none⟩ :: rest) :=
  TL_run rfl (by simp) fun a w hf hs => by
    obtain ⟨fn, tmps, as_, bd, h1, h2⟩ := hy j x hj hpx G w (hs.perm hp)
    have e : (execOp a.eval ⟨d, .call { callee := .value callee, args := args.toArray, argTypes := at_ }, ty, pos, aft, none⟩).run P w = .ok (.round l fn tmps as_ bd) w := by
      simp only [execOp, resolve, hf.ev hx, Deferred.ofValue, List.map_toArray, evL_spec hf ha, Sem.run_bind, Sem.run_pure, Result.andThen, invoke, hvs]
      simpa using h1
    rw [e]
    refine ⟨fun h => by simp [FW] at h, h2.mono ?_⟩
    rintro e w' ⟨rfl, y, hy', hs'⟩
    exact k y hy' _ _ (hf.putE hd _) hs'
/-- What a round owes at its body's end: it goes on, or a return ends the range. -/
def bodyQX {σ : Type} (B : Nat) (w0 : World) (st : Bool) (p : σ → Prop) (H' : σ → Hp) : Exit → Act → World → Prop := fun e _ w => e = (if st then .ret else .normal) ∧ ∃ y, p y ∧ SH B w0 w (H' y)
theorem TQ_bodyX {σ : Type} {p : σ → Prop} {H' : σ → Hp} (y : σ) (hy : p y) (hH : ∀ w, SH B w0 w H → SH B w0 w (H' y)) : TQ (bodyQX B w0 false p H') N D B w0 L H .normal := fun _ w _ hs => ⟨rfl, y, hy, hH w hs⟩
def asgQX {σ : Type} (P : Program) (B : Nat) (w0 : World) (l : Nat) (body : Code) (st : Bool) (p : σ → Prop) (H' : σ → Hp) : Exit → Act → World → Prop :=
  Exit.then (fun a₁ w₁ => ∃ w₂, (Instr.beginRound l).run P w₁ = .ok () w₂ ∧ body.wpIn ((FW none).inRound l) 0 P (bodyQX B w0 st p H') a₁ w₂) (fun _ _ _ => False)
theorem TQ_asgX {σ : Type} {l : Nat} {body : Code} {st : Bool} {p : σ → Prop} {H' : σ → Hp} {rec : Loop} {Hb : Hp} (hu : Upd H l (.obj (recO rec .ready)) (.obj (recO rec .busy)) Hb) (h : TC (some l) P (bodyQX B w0 st p H') N D B w0 L Hb body) : TQ (asgQX P B w0 l body st p H') N D B w0 L H .normal := fun a w hf hs => by
  have hl : w.heap[l]? = some (.loop { rec with state := .ready }) := (hs.holds _ _ hu.mem).2
  exact ⟨_, run_beginRound hl rfl, h a _ hf (hs.putObj _ hu)⟩
/-- A range over a function, outermost; 'st': a return within the last round's body ends it. -/
theorem TC_rangeX {σ : Type} {g : Operand} {ps : List Nat} {assign body : Code} {k : FuncId} {cl : List Value} [hent : EntP P k] (hg : ev L g = some (.func (.func k) #[] cl.toArray)) (hN : ps.all (fun p => Nat.blt p N) = true) (n : Nat) (st : Bool) (hst : st = true → 0 < n) (xs : Nat → List Value) (p : Nat → σ → Prop) (Z : σ → Hp) (x0 : σ) (hp0 : p 0 x0)
    (hx : ∀ j, (xs j).length = ps.length) (h0 : ∀ w, SH B w0 w H → SH B w0 w (Z x0))
    (hround : ∀ (l Dd : Nat) (rec : Loop) (j : Nat) (x : σ) (G : Hp), j < n → p j x → TC (some l) P (asgQX P B w0 l body (st && Nat.beq (j + 1) n) (p (j + 1)) (fun y => (l, .obj (recO rec .busy)) :: (Dd, .obj (.deferred (some []))) :: (Z y ++ G))) N [] B w0 (envR ps (xs j) L) ((l, .obj (recO rec .ready)) :: (Dd, .obj (.deferred (some []))) :: (Z x ++ G)) assign)
    (hiter : ∀ (l : Nat) (Y : Nat → σ → Hp) (G : Nat → Hp), (∀ j x, Y j x = G j ++ Z x) → YldX P B w0 l n xs p Y (fun j => !(st && Nat.beq (j + 1) n)) → ∀ w, SH B w0 w (Y 0 x0) → Calls P k (.func (.yield l) #[] #[] :: cl).toArray w (RetP B w0 (fun _ : σ => .tuple #[]) (Y n) (p n)))
    (hdone : ∀ Dd x, p n x → TQ Q N (mark Dd :: D) B w0 L ((Dd, .obj (.deferred (some []))) :: Z x) (if st then .ret else .normal)) : TC none P Q N D B w0 L H (.rangeFunc g ps.toArray assign body) := fun a w hf hs => by
  refine wpIn_rangeFunc ?_
  intro fn hfn
  have hpn : ∀ p ∈ ps, p < N := fun p hp => by
    have := List.all_eq_true.1 hN p hp
    simpa [Nat.blt_eq] using this
  let rec_ : Loop := { state := .ready, pending := none, fn, tmps := a.tmps, params := ps.toArray, assign, body, defers := w.heap.size }
  let recd : Loop := { rec_ with state := .done, pending := some .ret }
  let W1 := (w.alloc (.deferred (some []))).alloc (.loop rec_)
  have hsz : (w.alloc (.deferred (some []))).heap.size = w.heap.size + 1 := by simp
  have hs1 : SH B w0 W1 ((w.heap.size + 1, .obj (recO rec_ .ready)) :: (w.heap.size, .obj (.deferred (some []))) :: Z x0) := by
    have h1 := (h0 w hs).alloc (.obj (.deferred (some [])))
    have h2 := h1.alloc (.obj (recO rec_ .ready))
    simp only [Blk.toObj] at h2
    rw [hsz] at h2
    exact h2
  refine ⟨w.heap.size + 1, [mark w.heap.size], W1, { target := .fn (.func k) cl.toArray, args := #[.func (.yield (w.heap.size + 1)) #[] #[]] }, W1, k,
    #[.func (.yield (w.heap.size + 1)) #[] #[]] ++ cl.toArray, W1, ?_, ?_, ?_, ?_, fun h => by simp [FW] at h, ?_⟩
  · exact run_enterLoop_outer _ _ _ _ _
  · simp only [resolve, hf.ev hg]
    simp [Deferred.ofValue, Act.eval]
  · intro f' _; trivial
  · simp [invoke, hent.run]
  · let G0 : Nat → Hp := fun j => [(w.heap.size + 1, .obj (if st && Nat.beq j n then .loop recd else recO rec_ .ready)), (w.heap.size, .obj (.deferred (some [])))]
    have hY : YldX P B w0 (w.heap.size + 1) n xs p (fun j x => G0 j ++ Z x) (fun j => !(st && Nat.beq (j + 1) n)) := by
      intro j x hj hpx G W hW
      have hne : Nat.beq j n = false := by
        cases h : Nat.beq j n with
        | false => rfl
        | true => have := Nat.eq_of_beq_eq_true h; omega
      have hW' : SH B w0 W ((w.heap.size + 1, .obj (recO rec_ .ready)) :: (w.heap.size, .obj (.deferred (some []))) :: (Z x ++ G)) := by
        have : G0 j = [(w.heap.size + 1, .obj (recO rec_ .ready)), (w.heap.size, .obj (.deferred (some [])))] := by
          show [_, _] = _; rw [hne, Bool.and_false]; rfl
        have hW2 : SH B w0 W (G0 j ++ Z x ++ G) := hW
        rw [this] at hW2; exact hW2
      have hl : W.heap[w.heap.size + 1]? = some (.loop rec_) := (hW'.holds (w.heap.size + 1) (.obj (recO rec_ .ready)) List.mem_cons_self).2
      refine ⟨fn, _, assign, body, run_yield hl (by simp [hx, rec_]), roundIn_of_wpIn hfn ?_⟩
      have hfr := hf.round (ps := ps) (vs := xs j) hpn
      have hR := hround (w.heap.size + 1) w.heap.size rec_ j x G hj hpx { tmps := (ps.toArray.zip (xs j).toArray).foldl (fun t (p, v) => t.setIfInBounds p v) a.tmps, defers := [] } W hfr hW'
      refine wpIn_mono hR fun e a₁ w₁ hq => ?_
      cases e with
      | normal =>
        obtain ⟨w₂, hb, hbody⟩ := hq
        refine ⟨w₂, hb, wpIn_mono hbody fun e a₂ w₃ hq2 => ?_⟩
        obtain ⟨he, y, hpy, hs3⟩ := hq2
        have hl3 : w₃.heap[w.heap.size + 1]? = some (.loop { rec_ with state := .busy }) := (hs3.holds (w.heap.size + 1) (.obj (recO rec_ .busy)) List.mem_cons_self).2
        cases hb2 : (st && Nat.beq (j + 1) n) with
        | false =>
          rw [hb2] at he
          have he' : e = .normal := he
          subst he'
          refine ⟨_, _, run_endRound none hl3, (by show _ = Ending.returned (.bool (!(st && Nat.beq (j + 1) n))); rw [hb2]; rfl), y, hpy, ?_⟩
          have h5 := hs3.putObj (o := recO rec_ .busy) (recO rec_ .ready) Upd.head
          have : G0 (j + 1) = [(w.heap.size + 1, .obj (recO rec_ .ready)), (w.heap.size, .obj (.deferred (some [])))] := by
            show [_, _] = _; rw [hb2]; rfl
          show SH B w0 _ (G0 (j + 1) ++ Z y ++ G)
          rw [this]; exact h5
        | true =>
          rw [hb2] at he
          have he' : e = .ret := he
          subst he'
          refine ⟨_, _, run_endRound (some .ret) hl3, (by show _ = Ending.returned (.bool (!(st && Nat.beq (j + 1) n))); rw [hb2]; rfl), y, hpy, ?_⟩
          have h5 := hs3.putObj (o := recO rec_ .busy) (.loop recd) Upd.head
          have : G0 (j + 1) = [(w.heap.size + 1, .obj (.loop recd)), (w.heap.size, .obj (.deferred (some [])))] := by
            show [_, _] = _; rw [hb2]; rfl
          show SH B w0 _ (G0 (j + 1) ++ Z y ++ G)
          rw [this]; exact h5
      | _ => exact hq
    have hs1' : SH B w0 W1 (G0 0 ++ Z x0) := by
      have : G0 0 = [(w.heap.size + 1, .obj (recO rec_ .ready)), (w.heap.size, .obj (.deferred (some [])))] := by
        have : (st && Nat.beq 0 n) = false := by
          cases st with
          | false => rfl
          | true =>
            have := hst rfl
            cases n with
            | zero => omega
            | succ n => rfl
        show [_, _] = _; rw [this]; rfl
      rw [this]; exact hs1
    have hc := hiter (w.heap.size + 1) _ G0 (fun j x => rfl) hY W1 hs1'
    have e : #[Value.func (.yield (w.heap.size + 1)) #[] #[]] ++ cl.toArray = (.func (.yield (w.heap.size + 1)) #[] #[] :: cl).toArray := by simp
    rw [e]
    refine (callsIn_of_calls hc).mono ?_
    rintro e' w3 ⟨y, hpy, rfl, hs3⟩
    have hnn : Nat.beq n n = true := by simp
    cases st with
    | false =>
      have hs3' : SH B w0 w3 ((w.heap.size + 1, .obj (recO rec_ .ready)) :: (w.heap.size, .obj (.deferred (some []))) :: Z y) := hs3
      have hl3 : w3.heap[w.heap.size + 1]? = some (.loop rec_) := (hs3'.holds (w.heap.size + 1) (.obj (recO rec_ .ready)) List.mem_cons_self).2
      refine ⟨none, _, run_endLoop hl3 (by simp [rec_]), ?_⟩
      refine hdone w.heap.size y hpy _ _ ⟨hf.size, by simp [hf.defers], hf.get⟩ ?_
      have := hs3'.putObj (o := recO rec_ .ready) (recO rec_ .exhausted) Upd.head
      exact this.sub (List.Sublist.cons _ (List.Sublist.refl _))
    | true =>
      have hg1 : G0 n = [(w.heap.size + 1, .obj (.loop recd)), (w.heap.size, .obj (.deferred (some [])))] := by
        show [_, _] = _; rw [hnn]; rfl
      have hs3' : SH B w0 w3 (G0 n ++ Z y) := hs3
      rw [hg1] at hs3'
      have hl3 : w3.heap[w.heap.size + 1]? = some (.loop recd) := (hs3'.holds (w.heap.size + 1) (.obj (.loop recd)) List.mem_cons_self).2
      refine ⟨some .ret, _, run_endLoop hl3 (by simp [recd]), ?_⟩
      refine wpIn_ret ?_
      refine hdone w.heap.size y hpy _ _ ⟨hf.size, by simp [hf.defers], hf.get⟩ ?_
      have := hs3'.putObj (o := .loop recd) (.loop { recd with state := .exhausted }) Upd.head
      exact this.sub (List.Sublist.cons _ (List.Sublist.refl _))
end
section
variable {P : Program} {N : Nat} {B : Nat} {w0 : World} {L : Env} {H : Hp}
theorem TQ_leaveM0 {fn : Func} {R : Ending → World → Prop} {e : Exit} {rs : List ResultVar} {vs : List Value} (he : e = .ret ∨ e = .normal)
    (hr : fn.results = rs.toArray) (h1 : resVs P B w0 L H rs vs) (hR : ∀ w, SH B w0 w H → R (.returned (oneOr vs)) w) : TQ (bodyPostM (FW none) 0 P fn R) N [] B w0 L H e := fun a w hf hs => by
  have key : LeavesInM (FW none) 0 P fn a.tmps R [] .returning w := ⟨_, run_resVs hr h1 hf hs, hR _ hs⟩
  rcases he with rfl | rfl
  · show LeavesInM _ _ _ _ _ _ a.defers _ _
    rw [hf.defers]; exact key
  · show LeavesInM _ _ _ _ _ _ a.defers _ _
    rw [hf.defers]; exact key
end
end Go.Eng

namespace Go.Eng
open Go Go.RowKit
theorem zb {A B : Prop} (k : A) (h : Hd A → B := by
  intro _K
  apply TL_box; exact rfl; exact rfl; exact rfl
  exact _K.h) : B := h ⟨k⟩
theorem za {A B : Prop} (k : A) (h : Hd A → B := by
  intro _K
  apply TL_alloc; exact rfl
  exact _K.h) : B := h ⟨k⟩
theorem zs {A B : Prop} (k : A) (h : Hd A → B := by
  intro _K
  apply TL_buildSlice; exact rfl; exact rfl; exact rfl; exact rfl; exact rfl
  exact _K.h) : B := h ⟨k⟩
end Go.Eng
