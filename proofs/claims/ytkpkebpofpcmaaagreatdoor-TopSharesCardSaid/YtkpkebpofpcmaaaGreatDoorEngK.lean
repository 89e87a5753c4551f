/- The engine: ranges over functions whose yielded values are known by a predicate; loops in which such ranges stand. -/
import Derived.Test.YtkpkebpofpcmaaaGreatDoorEngR
namespace Go.Eng
open Go Go.RowKit
def YldY {σ : Type} (P : Program) (B : Nat) (w0 : World) (l n : Nat) (Ψ : Nat → σ → List Value → Hp → Prop) (p : Nat → σ → Prop) (Y : Nat → σ → Hp) (bs : Nat → Bool) : Prop :=
  ∀ j x vs, j < n → p j x → ∀ (G : Hp) (w : World), Ψ j x vs G → SH B w0 w (Y j x ++ G) → ∃ fn tmps as_ bd, (Instr.yield l (vs : List Value).toArray).run P w = .ok (.round l fn tmps as_ bd) w ∧
    RoundIn (FW none) 0 P l fn tmps as_ bd w (fun e w' => e = .returned (.bool (bs j)) ∧ ∃ y, p (j + 1) y ∧ SH B w0 w' (Y (j + 1) y ++ G))
section
variable {r : Option Nat} {P : Program} {Q : Exit → Act → World → Prop} {N : Nat} {D : List Deferred} {B : Nat} {w0 : World} {L : Env} {H : Hp} {ops : Array Oper} {rest : List Oper}
variable {d : Option Nat} {ty : TypeId} {pos : String} {aft : Array Edge}
theorem TL_yieldY {σ : Type} {callee : Operand} {args : List Operand} {at_ : Array TypeId} {l n : Nat} {Ψ : Nat → σ → List Value → Hp → Prop} {p : Nat → σ → Prop} {Y : Nat → σ → Hp} {bs : Nat → Bool} {vs : List Value} (hx : ev L callee = some (.func (.yield l) #[] #[])) (ha : evL L args = some vs) (hd : okD N d = true) (hy : YldY P B w0 l n Ψ p Y bs) (j : Nat) (x : σ) (G : Hp)
    (hj : j < n) (hpx : p j x) (hvs : Ψ j x vs G) (hp : (Y j x ++ G).Perm H)
    (k : ∀ y, p (j + 1) y → TL none P Q N D B w0 (putE L d (.bool (bs j))) (Y (j + 1) y ++ G) ops rest) :
    TL none P Q N D B w0 L H ops (⟨d, .call { callee := .value callee, args := args.toArray, argTypes := at_ }, ty, pos, aft, none⟩ :: rest) :=
  TL_run rfl (by simp) fun a w hf hs => by
    obtain ⟨fn, tmps, as_, bd, h1, h2⟩ := hy j x vs hj hpx G w hvs (hs.perm hp)
    have e : (execOp a.eval ⟨d, .call { callee := .value callee, args := args.toArray, argTypes := at_ }, ty, pos, aft, none⟩).run P w = .ok (.round l fn tmps as_ bd) w := by
      simp only [execOp, resolve, hf.ev hx, Deferred.ofValue, List.map_toArray, evL_spec hf ha, Sem.run_bind, Sem.run_pure, Result.andThen, invoke]
      simpa using h1
    rw [e]
    refine ⟨fun h => by simp [FW] at h, h2.mono ?_⟩
    rintro e w' ⟨rfl, y, hy', hs'⟩
    exact k y hy' _ _ (hf.putE hd _) hs'
/-- A range over a function, outermost; 'st': a return within the last round's body ends it. -/
theorem TC_rangeY {σ : Type} {g : Operand} {ps : List Nat} {assign body : Code} {k : FuncId} {cl : List Value} [hent : EntP P k] (hg : ev L g = some (.func (.func k) #[] cl.toArray)) (hN : ps.all (fun p => Nat.blt p N) = true) (n : Nat) (st : Bool) (hst : st = true → 0 < n) (Ψ : Nat → σ → List Value → Hp → Prop) (p : Nat → σ → Prop) (Z : σ → Hp) (x0 : σ) (hp0 : p 0 x0)
    (hx : ∀ j x vs G, Ψ j x vs G → vs.length = ps.length) (h0 : ∀ w, SH B w0 w H → SH B w0 w (Z x0))
    (hround : ∀ (l Dd : Nat) (rec : Loop) (j : Nat) (x : σ) (vs : List Value) (G : Hp), j < n → p j x → Ψ j x vs G → TC (some l) P (asgQX P B w0 l body (st && Nat.beq (j + 1) n) (p (j + 1)) (fun y => (l, .obj (recO rec .busy)) :: (Dd, .obj (.deferred (some []))) :: (Z y ++ G))) N [] B w0 (envR ps vs L) ((l, .obj (recO rec .ready)) :: (Dd, .obj (.deferred (some []))) :: (Z x ++ G)) assign)
    (hiter : ∀ (l : Nat) (Y : Nat → σ → Hp) (G : Nat → Hp), (∀ j x, Y j x = G j ++ Z x) → YldY P B w0 l n Ψ p Y (fun j => !(st && Nat.beq (j + 1) n)) → ∀ w, SH B w0 w (Y 0 x0) → Calls P k (.func (.yield l) #[] #[] :: cl).toArray w (RetP B w0 (fun _ : σ => .tuple #[]) (Y n) (p n)))
    (hdone : ∀ Dd x, p n x → TQ Q N (mark Dd :: D) B w0 L ((Dd, .obj (.deferred (some []))) :: Z x) (if st then .ret else .normal)) : TC none P Q N D B w0 L H (.rangeFunc g ps.toArray assign body) := fun a w hf hs => by
  refine wpIn_rangeFunc ?_
  intro fn hfn
  have hpn : ∀ p ∈ ps, p < N := fun p hp => by
    have := List.all_eq_true.1 hN p hp
    simpa [Nat.blt_eq] using this
  let rec_ : Loop := { state := .ready, pending := none, fn, tmps := a.tmps, params := ps.toArray, assign, body, defers := w.heap.size }
  let recd : Loop := { rec_ with state := .done, pending := some .ret }
  let W1 := (w.alloc (.deferred (some []))).alloc (.loop rec_)
  have hsz : (w.alloc (.deferred (some []))).heap.size = w.heap.size + 1 := by simp
  have hs1 : SH B w0 W1 ((w.heap.size + 1, .obj (recO rec_ .ready)) :: (w.heap.size, .obj (.deferred (some []))) :: Z x0) := by
    have h1 := (h0 w hs).alloc (.obj (.deferred (some [])))
    have h2 := h1.alloc (.obj (recO rec_ .ready))
    simp only [Blk.toObj] at h2
    rw [hsz] at h2
    exact h2
  refine ⟨w.heap.size + 1, [mark w.heap.size], W1, { target := .fn (.func k) cl.toArray, args := #[.func (.yield (w.heap.size + 1)) #[] #[]] }, W1, k,
    #[.func (.yield (w.heap.size + 1)) #[] #[]] ++ cl.toArray, W1, ?_, ?_, ?_, ?_, fun h => by simp [FW] at h, ?_⟩
  · exact run_enterLoop_outer _ _ _ _ _
  · simp only [resolve, hf.ev hg]
    simp [Deferred.ofValue, Act.eval]
  · intro f' _; trivial
  · simp [invoke, hent.run]
  · let G0 : Nat → Hp := fun j => [(w.heap.size + 1, .obj (if st && Nat.beq j n then .loop recd else recO rec_ .ready)), (w.heap.size, .obj (.deferred (some [])))]
    have hY : YldY P B w0 (w.heap.size + 1) n Ψ p (fun j x => G0 j ++ Z x) (fun j => !(st && Nat.beq (j + 1) n)) := by
      intro j x vs hj hpx G W hΨ hW
      have hne : Nat.beq j n = false := by
        cases h : Nat.beq j n with
        | false => rfl
        | true => have := Nat.eq_of_beq_eq_true h; omega
      have hW' : SH B w0 W ((w.heap.size + 1, .obj (recO rec_ .ready)) :: (w.heap.size, .obj (.deferred (some []))) :: (Z x ++ G)) := by
        have : G0 j = [(w.heap.size + 1, .obj (recO rec_ .ready)), (w.heap.size, .obj (.deferred (some [])))] := by
          show [_, _] = _; rw [hne, Bool.and_false]; rfl
        have hW2 : SH B w0 W (G0 j ++ Z x ++ G) := hW
        rw [this] at hW2; exact hW2
      have hl : W.heap[w.heap.size + 1]? = some (.loop rec_) := (hW'.holds (w.heap.size + 1) (.obj (recO rec_ .ready)) List.mem_cons_self).2
      refine ⟨fn, _, assign, body, run_yield hl (by simp [hx j x vs G hΨ, rec_]), roundIn_of_wpIn hfn ?_⟩
      have hfr := hf.round (ps := ps) (vs := vs) hpn
      have hR := hround (w.heap.size + 1) w.heap.size rec_ j x vs G hj hpx hΨ { tmps := (ps.toArray.zip vs.toArray).foldl (fun t (p, v) => t.setIfInBounds p v) a.tmps, defers := [] } W hfr hW'
      refine wpIn_mono hR fun e a₁ w₁ hq => ?_
      cases e with
      | normal =>
        obtain ⟨w₂, hb, hbody⟩ := hq
        refine ⟨w₂, hb, wpIn_mono hbody fun e a₂ w₃ hq2 => ?_⟩
        obtain ⟨he, y, hpy, hs3⟩ := hq2
        have hl3 : w₃.heap[w.heap.size + 1]? = some (.loop { rec_ with state := .busy }) := (hs3.holds (w.heap.size + 1) (.obj (recO rec_ .busy)) List.mem_cons_self).2
        cases hb2 : (st && Nat.beq (j + 1) n) with
        | false =>
          rw [hb2] at he
          have he' : e = .normal := he
          subst he'
          refine ⟨_, _, run_endRound none hl3, (by show _ = Ending.returned (.bool (!(st && Nat.beq (j + 1) n))); rw [hb2]; rfl), y, hpy, ?_⟩
          have h5 := hs3.putObj (o := recO rec_ .busy) (recO rec_ .ready) Upd.head
          have : G0 (j + 1) = [(w.heap.size + 1, .obj (recO rec_ .ready)), (w.heap.size, .obj (.deferred (some [])))] := by
            show [_, _] = _; rw [hb2]; rfl
          show SH B w0 _ (G0 (j + 1) ++ Z y ++ G)
          rw [this]; exact h5
        | true =>
          rw [hb2] at he
          have he' : e = .ret := he
          subst he'
          refine ⟨_, _, run_endRound (some .ret) hl3, (by show _ = Ending.returned (.bool (!(st && Nat.beq (j + 1) n))); rw [hb2]; rfl), y, hpy, ?_⟩
          have h5 := hs3.putObj (o := recO rec_ .busy) (.loop recd) Upd.head
          have : G0 (j + 1) = [(w.heap.size + 1, .obj (.loop recd)), (w.heap.size, .obj (.deferred (some [])))] := by
            show [_, _] = _; rw [hb2]; rfl
          show SH B w0 _ (G0 (j + 1) ++ Z y ++ G)
          rw [this]; exact h5
      | _ => exact hq
    have hs1' : SH B w0 W1 (G0 0 ++ Z x0) := by
      have : G0 0 = [(w.heap.size + 1, .obj (recO rec_ .ready)), (w.heap.size, .obj (.deferred (some [])))] := by
        have : (st && Nat.beq 0 n) = false := by
          cases st with
          | false => rfl
          | true =>
            have := hst rfl
            cases n with
            | zero => omega
            | succ n => rfl
        show [_, _] = _; rw [this]; rfl
      rw [this]; exact hs1
    have hc := hiter (w.heap.size + 1) _ G0 (fun j x => rfl) hY W1 hs1'
    have e : #[Value.func (.yield (w.heap.size + 1)) #[] #[]] ++ cl.toArray = (.func (.yield (w.heap.size + 1)) #[] #[] :: cl).toArray := by simp
    rw [e]
    refine (callsIn_of_calls hc).mono ?_
    rintro e' w3 ⟨y, hpy, rfl, hs3⟩
    have hnn : Nat.beq n n = true := by simp
    cases st with
    | false =>
      have hs3' : SH B w0 w3 ((w.heap.size + 1, .obj (recO rec_ .ready)) :: (w.heap.size, .obj (.deferred (some []))) :: Z y) := hs3
      have hl3 : w3.heap[w.heap.size + 1]? = some (.loop rec_) := (hs3'.holds (w.heap.size + 1) (.obj (recO rec_ .ready)) List.mem_cons_self).2
      refine ⟨none, _, run_endLoop hl3 (by simp [rec_]), ?_⟩
      refine hdone w.heap.size y hpy _ _ ⟨hf.size, by simp [hf.defers], hf.get⟩ ?_
      have := hs3'.putObj (o := recO rec_ .ready) (recO rec_ .exhausted) Upd.head
      exact this.sub (List.Sublist.cons _ (List.Sublist.refl _))
    | true =>
      have hg1 : G0 n = [(w.heap.size + 1, .obj (.loop recd)), (w.heap.size, .obj (.deferred (some [])))] := by
        show [_, _] = _; rw [hnn]; rfl
      have hs3' : SH B w0 w3 (G0 n ++ Z y) := hs3
      rw [hg1] at hs3'
      have hl3 : w3.heap[w.heap.size + 1]? = some (.loop recd) := (hs3'.holds (w.heap.size + 1) (.obj (.loop recd)) List.mem_cons_self).2
      refine ⟨some .ret, _, run_endLoop hl3 (by simp [recd]), ?_⟩
      refine wpIn_ret ?_
      refine hdone w.heap.size y hpy _ _ ⟨hf.size, by simp [hf.defers], hf.get⟩ ?_
      have := hs3'.putObj (o := .loop recd) (.loop { recd with state := .exhausted }) Upd.head
      exact this.sub (List.Sublist.cons _ (List.Sublist.refl _))
end
def marksH (ds : List Nat) : Hp := ds.map fun d => (d, Blk.obj (.deferred (some [])))
def marksD (ds : List Nat) : List Deferred := ds.map mark
section
variable {r : Option Nat} {P : Program} {Q : Exit → Act → World → Prop} {N : Nat} {D : List Deferred} {B : Nat} {w0 : World} {L : Env} {H : Hp}
/-- A function in which ranges stood leaves. -/
theorem TQ_leaveMn {fn : Func} {R : Ending → World → Prop} {ds : List Nat} {e : Exit} {rs : List ResultVar} {vs : List Value} {H' : Hp} (he : e = .ret ∨ e = .normal) (hp : ∀ w, SH B w0 w H → SH B w0 w (marksH ds ++ H'))
    (hr : fn.results = rs.toArray) (h1 : resVs P B w0 L H' rs vs) (hR : ∀ w, SH B w0 w H' → R (.returned (oneOr vs)) w) : TQ (bodyPostM (FW none) 0 P fn R) N (marksD ds) B w0 L H e := fun a w hf hs => by
  have key : ∀ (ds : List Nat) (w : World), SH B w0 w (marksH ds ++ H') → LeavesInM (FW none) 0 P fn a.tmps R (marksD ds) .returning w := by
    intro ds
    induction ds with
    | nil => intro w hs; exact ⟨_, run_resVs hr h1 hf hs, hR _ hs⟩
    | cons d ds ih =>
      intro w hs
      have hs0 : SH B w0 w ((d, Blk.obj (.deferred (some []))) :: (marksH ds ++ H')) := hs
      have hs' := hs0.putObj (o := .deferred (some [])) (.deferred none) Upd.head
      exact ⟨by simp, .inl ⟨d, _, rfl, run_takeDeferred (hs0.holds _ _ List.mem_cons_self).2, ih _ (hs'.sub (List.sublist_cons_self _ _))⟩⟩
  have h0 := key ds w (hp w hs)
  rcases he with rfl | rfl
  · show LeavesInM _ _ _ _ _ _ a.defers _ _
    rw [hf.defers]; exact h0
  · show LeavesInM _ _ _ _ _ _ a.defers _ _
    rw [hf.defers]; exact h0
theorem TC_loopD {c : Code} {σ : Type} (p : σ → Prop) (Dx : σ → List Deferred) (Lx : σ → Env) (Hx : σ → Hp) (μ : σ → Nat) (x0 : σ) (h0 : p x0) (hD : Dx x0 = D) (hL : Sub (Lx x0) L) (hH : ∀ w, SH B w0 w H → SH B w0 w (Hx x0))
    (round : ∀ x, p x → TC r P (Exit.then (fun a w => ∃ y, p y ∧ μ y < μ x ∧ Fr N (Dx y) (Lx y) a ∧ SH B w0 w (Hx y)) Q) N (Dx x) B w0 (Lx x) (Hx x) c) : TC r P Q N D B w0 L H (.loop c) := by
  subst hD
  intro a w hf hs
  classical
  let I : Act → World → σ → Prop := fun a w x => p x ∧ Fr N (Dx x) (Lx x) a ∧ SH B w0 w (Hx x)
  let m : Act → World → Nat := fun a w => if h : ∃ n, ∃ x, I a w x ∧ μ x = n then Classical.choose (least_nat h) else 0
  refine wpIn_loop (fun a w => ∃ x, I a w x) m ⟨x0, h0, hf.sub hL, hH w hs⟩ ?_
  rintro a w hI
  have hex : ∃ n, ∃ x, I a w x ∧ μ x = n := let ⟨x, hx⟩ := hI; ⟨μ x, x, hx, rfl⟩
  obtain ⟨x, ⟨hp, hfx, hsx⟩, hmu⟩ := (Classical.choose_spec (least_nat hex)).1
  have hm : m a w = μ x := by simp only [m, dif_pos hex]; exact hmu.symm
  refine wpIn_mono (round x hp _ _ hfx hsx) fun e a' w' hq => ?_
  cases e with
  | normal =>
    obtain ⟨y, hy, hlt, hfy, hsy⟩ := hq
    have hex' : ∃ n, ∃ x, I a' w' x ∧ μ x = n := ⟨μ y, y, ⟨hy, hfy, hsy⟩, rfl⟩
    refine ⟨⟨y, hy, hfy, hsy⟩, ?_⟩
    have : m a' w' ≤ μ y := by simp only [m, dif_pos hex']; exact (Classical.choose_spec (least_nat hex')).2 _ ⟨y, ⟨hy, hfy, hsy⟩, rfl⟩
    show m a' w' < m a w
    omega
  | _ => exact hq
theorem TQ_roundD {σ : Type} {p : σ → Prop} {Dx : σ → List Deferred} {Lx : σ → Env} {Hx : σ → Hp} {μ : σ → Nat} {n : Nat} (y : σ) (hy : p y) (hlt : μ y < n) (hD : Dx y = D) (hL : Sub (Lx y) L) (hH : ∀ w, SH B w0 w H → SH B w0 w (Hx y)) :
    TQ (Exit.then (fun a w => ∃ y, p y ∧ μ y < n ∧ Fr N (Dx y) (Lx y) a ∧ SH B w0 w (Hx y)) Q) N D B w0 L H .normal :=
  fun a w hf hs => ⟨y, hy, hlt, by rw [hD]; exact hf.sub hL, hH w hs⟩
end
end Go.Eng
