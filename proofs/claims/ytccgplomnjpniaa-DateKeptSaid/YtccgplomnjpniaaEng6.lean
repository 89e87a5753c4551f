/- The engine, part 6: a region that draws its order of evaluation. One walk in the order of the text serves every order: each operation ahead of the tail only lays new blocks, and is walked from what it looks at. -/
import Derived.Test.YtccgplomnjpniaaEng5
namespace Go.Eng
open Go Go.RowKit

/-- What an operation ahead of the tail leaves in its slot: one value; or some value, with new blocks. -/
inductive Post where
  | val (c : Value)
  | rel (Φ : Value → Hp → Prop)
def Post.ok : Post → Value → Hp → Prop
  | .val c, v, h => v = c ∧ h = []
  | .rel Φ, v, h => Φ v h
abbrev Fact := Nat × (Value → Hp → Prop)

def envA : Env → List (Nat × Post) → Env
  | E, [] => E
  | E, q :: ps => match q.2 with
    | .val c => envA ((q.1, c) :: E) ps
    | .rel _ => envA E ps
def fsA : List Fact → List (Nat × Post) → List Fact
  | Fs, [] => Fs
  | Fs, q :: ps => match q.2 with
    | .val _ => fsA Fs ps
    | .rel Φ => fsA ((q.1, Φ) :: Fs) ps
def AllF : List Fact → (Env → Hp → Prop) → Prop
  | [], K => K [] []
  | q :: Fs, K => ∀ v h, q.2 v h → AllF Fs (fun E G => K ((q.1, v) :: E) (h ++ G))
def fltF (ops : Array Oper) (o : Oper) (Fs : List Fact) : List Fact := Fs.filter fun q => (o.looksAt ops).contains q.1

theorem AllF_inst (va : Nat → Value) (hσ : Nat → Hp) : ∀ (Fs : List Fact) (K : Env → Hp → Prop), AllF Fs K → (∀ q ∈ Fs, q.2 (va q.1) (hσ q.1)) → K (Fs.map fun q => (q.1, va q.1)) (Fs.flatMap fun q => hσ q.1) := by
  intro Fs
  induction Fs with
  | nil => intro K h _; exact h
  | cons q Fs ih =>
    intro K h hq
    exact ih _ (h _ _ (hq q List.mem_cons_self)) (fun p hp => hq p (List.mem_cons_of_mem _ hp))

section
variable (r : Option Nat) (P : Program) (N : Nat) (D : List Deferred) (B : Nat) (w0 : World) (H : Hp) (ops : Array Oper)
/-- The ends that are owed of one operation. -/
def QR (d : Nat) (Φ : Value → Hp → Prop) (H' : Hp) : Exit → Act → World → Prop := fun e a w => e = .normal ∧ a.defers = D ∧ ∃ v h, a.tmps[d]? = some v ∧ Φ v h ∧ SH B w0 w (h ++ H')
def QV (d : Nat) (c : Value) (H' : Hp) : Exit → Act → World → Prop := fun e a w => e = .normal ∧ a.defers = D ∧ a.tmps[d]? = some c ∧ SH B w0 w H'
def ObR (o : Oper) (q : Nat × Post) (E : Env) (Fs : List Fact) : Prop :=
  AllF (fltF ops o Fs) fun EF G => ∀ X : Hp, TL r P (QR D B w0 q.1 q.2.ok (G ++ (X ++ H))) N D B w0 (EF ++ E) (G ++ (X ++ H)) ops [o]

inductive PG : List Oper → Env → List Fact → List (Nat × Post) → Prop
  | nil {E Fs} : PG [] E Fs []
  | val {o rest E Fs d c ps} : o.dst = some d → Nat.blt d N = true → (AllF (fltF ops o Fs) fun EF G => ∀ X : Hp, TL r P (QV D B w0 d c (G ++ (X ++ H))) N D B w0 (EF ++ E) (G ++ (X ++ H)) ops [o]) →
      PG rest ((d, c) :: E) Fs ps → PG (o :: rest) E Fs ((d, .val c) :: ps)
  | rel {o rest E Fs d ps} (Φ : Value → Hp → Prop) : o.dst = some d → Nat.blt d N = true → (AllF (fltF ops o Fs) fun EF G => ∀ X : Hp, TL r P (QR D B w0 d Φ (G ++ (X ++ H))) N D B w0 (EF ++ E) (G ++ (X ++ H)) ops [o]) →
      PG rest E ((d, Φ) :: Fs) ps → PG (o :: rest) E Fs ((d, .rel Φ) :: ps)
end

section
variable {r : Option Nat} {P : Program} {Q : Exit → Act → World → Prop} {N : Nat} {D : List Deferred} {B : Nat} {w0 : World} {L : Env} {H : Hp} {ops : Array Oper} {rest : List Oper}

theorem AllF.mono {Fs : List Fact} : ∀ {K K' : Env → Hp → Prop}, (∀ E G, K E G → K' E G) → AllF Fs K → AllF Fs K' := by
  induction Fs with
  | nil => intro K K' h hk; exact h _ _ hk
  | cons q Fs ih => intro K K' h hk v g hv; exact ih (fun E G => h _ _) (hk v g hv)

theorem TL.mono_Q {Q' : Exit → Act → World → Prop} (hq : ∀ e a w, Q e a w → Q' e a w) (h : TL r P Q N D B w0 L H ops rest) : TL r P Q' N D B w0 L H ops rest := by
  intro a w hf hs
  have key : ∀ (l : List Oper) a w, wpListIn (FW r) 0 P ops Q l a w → wpListIn (FW r) 0 P ops Q' l a w := by
    intro l
    induction l with
    | nil => intro a w h; exact hq _ _ _ h
    | cons o l ih =>
      intro a w h
      unfold wpListIn at h ⊢
      split
      · rename_i hw
        rw [if_pos hw] at h
        refine ⟨h.1, ?_⟩
        have h := h.2
        generalize (o.semAt (FW r).round a.eval).run P w = res at *
        cases res with
        | ok x w' =>
          cases x <;> simp only [Oper.uponIn] at h ⊢ <;>
            first
              | exact ih _ _ h
              | exact ⟨h.1, CallsIn.mono h.2 (fun e w'' he => by cases e <;> first | exact ih _ _ he | exact hq _ _ _ he | exact let ⟨a, w, h⟩ := he; ⟨a, w, hq _ _ _ h⟩)⟩
              | exact ⟨h.1, RowsIn.mono h.2 (fun _ _ he => ih _ _ he)⟩
              | exact ⟨h.1, RoundIn.mono h.2 (fun e w'' he => by cases e <;> first | exact ih _ _ he | exact hq _ _ _ he | exact let ⟨a, w, h⟩ := he; ⟨a, w, hq _ _ _ h⟩)⟩
        | halt x w' => cases x <;> simp only [Oper.uponIn] at h ⊢ <;> first | exact hq _ _ _ h | exact h
      · rename_i hw
        rw [if_neg hw] at h
        exact ⟨h.1, ih _ _ h.2⟩
  exact key _ _ _ (h a w hf hs)

theorem PG_spec {l : List Oper} {E : Env} {Fs : List Fact} {ps : List (Nat × Post)} (h : PG r P N D B w0 H ops l E Fs ps) :
    l.length = ps.length ∧ ∀ i o, l[i]? = some o → ∃ q, ps[i]? = some q ∧ o.dst = some q.1 ∧ q.1 < N ∧ ObR r P N D B w0 H ops o q (envA E (ps.take i)) (fsA Fs (ps.take i)) := by
  induction h with
  | nil => exact ⟨rfl, fun i o h => by simp at h⟩
  | val hd hN hob _ ih =>
    refine ⟨by simp [ih.1], fun i o h => ?_⟩
    cases i with
    | zero =>
      simp at h; subst h
      refine ⟨_, rfl, hd, by simpa using hN, ?_⟩
      exact AllF.mono (fun EF G hh X => (hh X).mono_Q (fun e a w ⟨h1, h0, h2, h3⟩ => ⟨h1, h0, _, [], h2, ⟨rfl, rfl⟩, h3⟩)) hob
    | succ i =>
      obtain ⟨q, h1, h2⟩ := ih.2 i o (by simpa using h)
      exact ⟨q, by simpa using h1, h2⟩
  | rel Φ hd hN hob _ ih =>
    refine ⟨by simp [ih.1], fun i o h => ?_⟩
    cases i with
    | zero =>
      simp at h; subst h
      exact ⟨_, rfl, hd, by simpa using hN, hob⟩
    | succ i =>
      obtain ⟨q, h1, h2⟩ := ih.2 i o (by simpa using h)
      exact ⟨q, by simpa using h1, h2⟩

theorem lk_append (E1 E2 : Env) (t : Nat) : lk (E1 ++ E2) t = match lk E1 t with | some v => some v | none => lk E2 t := by
  induction E1 with
  | nil => rfl
  | cons p E1 ih =>
    by_cases h : p.1 = t
    · subst h
      rw [show p = (p.1, p.2) from rfl, List.cons_append, lk_cons_same, lk_cons_same]
    · rw [show p = (p.1, p.2) from rfl, List.cons_append, lk_cons_ne _ _ h, lk_cons_ne _ _ h, ih]

theorem lk_envA : ∀ (ps : List (Nat × Post)) (E : Env) (t : Nat) (v : Value), lk (envA E ps) t = some v → (∃ (j : Nat) (c : Value), ps[j]? = some (t, Post.val c) ∧ v = c) ∨ (lk E t = some v ∧ ∀ (j : Nat) (c : Value), ps[j]? ≠ some (t, Post.val c)) := by
  intro ps
  induction ps with
  | nil => intro E t v h; exact .inr ⟨h, fun j c h => by simp at h⟩
  | cons q ps ih =>
    obtain ⟨d, p⟩ := q
    intro E t v h
    cases p with
    | val c =>
      rcases ih _ t v h with ⟨j, c', h1, h2⟩ | ⟨h1, h2⟩
      · exact .inl ⟨j + 1, c', by simpa using h1, h2⟩
      · by_cases e : d = t
        · subst e
          rw [lk_cons_same] at h1
          cases h1
          exact .inl ⟨0, _, rfl, rfl⟩
        · rw [lk_cons_ne _ _ e] at h1
          refine .inr ⟨h1, fun j c' hj => ?_⟩
          cases j with
          | zero => simp at hj; exact e hj.1
          | succ j => exact h2 j c' (by simpa using hj)
    | rel Φ =>
      rcases ih _ t v h with ⟨j, c', h1, h2⟩ | ⟨h1, h2⟩
      · exact .inl ⟨j + 1, c', by simpa using h1, h2⟩
      · refine .inr ⟨h1, fun j c' hj => ?_⟩
        cases j with
        | zero => simp at hj
        | succ j => exact h2 j c' (by simpa using hj)

theorem mem_fsA : ∀ (ps : List (Nat × Post)) (Fs : List Fact) (q : Fact), q ∈ fsA Fs ps ↔ (q ∈ Fs ∨ ∃ j : Nat, ps[j]? = some (q.1, Post.rel q.2)) := by
  intro ps
  induction ps with
  | nil => intro Fs q; simp [fsA]
  | cons p ps ih =>
    obtain ⟨d, p⟩ := p
    intro Fs q
    cases p with
    | val c =>
      rw [fsA, ih]
      constructor
      · rintro (h | ⟨j, h⟩)
        · exact .inl h
        · exact .inr ⟨j + 1, by simpa using h⟩
      · rintro (h | ⟨j, h⟩)
        · exact .inl h
        · cases j with
          | zero => simp at h
          | succ j => exact .inr ⟨j, by simpa using h⟩
    | rel Φ =>
      rw [fsA, ih]
      constructor
      · rintro (h | ⟨j, h⟩)
        · rcases List.mem_cons.1 h with rfl | h
          · exact .inr ⟨0, rfl⟩
          · exact .inl h
        · exact .inr ⟨j + 1, by simpa using h⟩
      · rintro (h | ⟨j, h⟩)
        · exact .inl (List.mem_cons_of_mem _ h)
        · cases j with
          | zero =>
            simp only [List.getElem?_cons_zero, Option.some.injEq, Prod.mk.injEq, Post.rel.injEq] at h
            exact .inl (by rw [show q = (q.1, q.2) from rfl, ← h.1, ← h.2]; exact List.mem_cons_self)
          | succ j => exact .inr ⟨j, by simpa using h⟩

theorem fsA_nodup : ∀ (ps : List (Nat × Post)) (Fs : List Fact), (Fs.map (·.1) ++ ps.map (·.1)).Nodup → ((fsA Fs ps).map (·.1)).Nodup := by
  intro ps
  induction ps with
  | nil => intro Fs h; simpa [fsA] using h
  | cons p ps ih =>
    obtain ⟨d, p⟩ := p
    intro Fs h
    rw [List.map_cons] at h
    have hp : (d :: (Fs.map (·.1) ++ ps.map (·.1))).Nodup := (List.perm_middle.nodup_iff).1 h
    cases p with
    | val c => exact ih Fs (List.nodup_cons.1 hp).2
    | rel Φ => exact ih ((d, Φ) :: Fs) hp

/-! ### The check -/
def depsL (ops : Array Oper) (i : Nat) : List Nat := match ops[i]? with
  | some o => (o.after.toList.filter (fun e => Region.binds .any e)).map (·.on)
  | none => []
def reachN (ops : Array Oper) : Nat → List Nat → List Nat
  | 0, S => S
  | n + 1, S => reachN ops n (S ++ S.flatMap (depsL ops)).eraseDups
def plainOp : Op → Bool
  | .defer _ => false
  | .select .. => false
  | _ => true
def dstsL (l : List Oper) : List Nat := l.filterMap (·.dst)
def drawOk (l : List Oper) (T : Nat) : Bool :=
  Nat.ble T l.length && (l.all fun o => plainOp o.op) &&
  ((List.range l.length).all fun i => (depsL l.toArray i).all fun k => Nat.blt k i) &&
  (let ds := (l.take T).map (·.dst)
   (List.range T).all fun i => (List.range T).all fun j =>
     (match ds[j]?, l[i]? with
      | some (some d), some o => !(o.looksAt l.toArray).contains d || (depsL l.toArray i).contains j || (reachN l.toArray l.length (depsL l.toArray j)).contains i
      | _, _ => true) && (Nat.beq i j || !(ds[i]? == ds[j]?))) &&
  ((List.range l.length).all fun i => Nat.blt i T || (let R := reachN l.toArray l.length (depsL l.toArray i); (List.range i).all fun k => R.contains k))

end

section
variable {r : Option Nat} {P : Program} {Q : Exit → Act → World → Prop} {N : Nat} {D : List Deferred} {B : Nat} {w0 : World} {L : Env} {H : Hp}

/-- How far a drawn order has come. -/
structure Stage (l : List Oper) (T : Nat) (ps : List (Nat × Post)) (N : Nat) (D : List Deferred) (B : Nat) (w0 : World) (L : Env) (H : Hp) (listed : Array Bool) (a : Act) (w : World) : Prop where
  size : a.tmps.size = N
  defers : a.defers = D
  base : ∀ t v, lk L t = some v → (∀ (j : Nat) q, ps[j]? = some q → q.1 = t → listed.getD j true = false) → a.tmps[t]? = some v
  done : ∃ (hσ : Nat → Hp) (Is : List Nat) (X : Hp), Is.Nodup ∧ (∀ d, d ∈ Is ↔ ∃ (j : Nat) (q : Nat × Post), ps[j]? = some q ∧ q.1 = d ∧ listed.getD j true = true) ∧
    SH B w0 w (Is.flatMap hσ ++ (X ++ H)) ∧ ∀ (j : Nat) q, ps[j]? = some q → listed.getD j true = true → ∃ v, a.tmps[q.1]? = some v ∧ q.2.ok v (hσ q.1)

theorem lk_map_some {Fs : List Fact} {va : Nat → Value} {t : Nat} {v : Value} : lk (Fs.map fun q => (q.1, va q.1)) t = some v → v = va t ∧ ∃ q ∈ Fs, q.1 = t := by
  induction Fs with
  | nil => intro h; cases h
  | cons q Fs ih =>
    intro h
    rw [List.map_cons] at h
    by_cases e : q.1 = t
    · subst e
      rw [lk_cons_same] at h
      cases h
      exact ⟨rfl, q, List.mem_cons_self, rfl⟩
    · rw [lk_cons_ne _ _ e] at h
      obtain ⟨h1, p, hp, h2⟩ := ih h
      exact ⟨h1, p, List.mem_cons_of_mem _ hp, h2⟩
theorem lk_map_none {Fs : List Fact} {va : Nat → Value} {t : Nat} : lk (Fs.map fun q => (q.1, va q.1)) t = none → ∀ q ∈ Fs, q.1 ≠ t := by
  intro h q hq e
  induction Fs with
  | nil => cases hq
  | cons p Fs ih =>
    rw [List.map_cons] at h
    by_cases e' : p.1 = t
    · rw [show p.1 = t from e', lk_cons_same] at h; cases h
    · rw [lk_cons_ne _ _ e'] at h
      rcases List.mem_cons.1 hq with rfl | hq
      · exact e' e
      · exact ih h hq

/-- In a stage, the environment of an operation's own walk holds, as far as the slot is not written out of turn. -/
theorem Stage.lookup {l : List Oper} {T : Nat} {ps : List (Nat × Post)} {listed : Array Bool} {a : Act} {w : World} (st : Stage l T ps N D B w0 L H listed a w) {i : Nat} {J : List Fact} {t : Nat} {v : Value}
    (hturn : ∀ (j : Nat) q, ps[j]? = some q → q.1 = t → (j < i ∧ listed.getD j true = true) ∨ (i < j ∧ listed.getD j true = false)) (hJ : ∀ q ∈ J, ∃ j : Nat, ps[j]? = some (q.1, Post.rel q.2) ∧ listed.getD j true = true)
    (hJt : ∀ q ∈ fsA [] (ps.take i), q.1 = t → q ∈ J)
    (h : lk ((J.map fun q => (q.1, a.tmps.getD q.1 undef)) ++ envA L (ps.take i)) t = some v) : a.tmps[t]? = some v := by
  obtain ⟨hσ, Is, X, _, _, _, hdone⟩ := st.done
  rw [lk_append] at h
  cases hl : lk (J.map fun q => (q.1, a.tmps.getD q.1 undef)) t with
  | some u =>
    rw [hl] at h
    cases h
    obtain ⟨h1, q, hq, h2⟩ := lk_map_some (va := fun k => a.tmps.getD k undef) hl
    subst h2
    obtain ⟨j, hj, hlj⟩ := hJ q hq
    obtain ⟨v', hv', _⟩ := hdone j _ hj hlj
    rw [h1]
    simp only at hv'
    simp [Array.getD_eq_getD_getElem?, hv']
  | none =>
    rw [hl] at h
    rcases lk_envA _ _ _ _ h with ⟨j, c, h1, h2⟩ | ⟨h1, h2⟩
    · subst h2
      rw [List.getElem?_take] at h1
      split at h1
      · rename_i hji
        have hlj : listed.getD j true = true := by
          rcases hturn j _ h1 rfl with h | h
          · exact h.2
          · omega
        obtain ⟨v', hv', hv2, _⟩ := hdone j _ h1 hlj
        rw [hv2] at hv'; exact hv'
      · cases h1
    · refine st.base t v h1 (fun j q hj hq => ?_)
      rcases hturn j q hj hq with ⟨hji, hlj⟩ | h
      rotate_left
      · exact h.2
      exfalso
      subst hq
      obtain ⟨d, p⟩ := q
      have ht : (ps.take i)[j]? = some (d, p) := by rw [List.getElem?_take, if_pos hji]; exact hj
      cases p with
      | val c => exact h2 j c ht
      | rel Φ =>
        have hm := hJt (d, Φ) ((mem_fsA _ _ _).2 (.inr ⟨j, ht⟩)) rfl
        exact lk_map_none (va := fun k => a.tmps.getD k undef) hl _ hm rfl

theorem perm_pick {Is J : List Nat} (hI : Is.Nodup) (hJ : J.Nodup) (hs : ∀ d ∈ J, d ∈ Is) : ∃ R, Is.Perm (J ++ R) := by
  induction J generalizing Is with
  | nil => exact ⟨Is, List.Perm.refl _⟩
  | cons d J ih =>
    have hd := hs d List.mem_cons_self
    have hp := List.perm_cons_erase hd
    obtain ⟨R, hR⟩ := ih (Is := Is.erase d) (hI.erase d) (List.nodup_cons.1 hJ).2 (fun x hx => (List.mem_erase_of_ne (by
      rintro rfl; exact (List.nodup_cons.1 hJ).1 hx)).2 (hs x (List.mem_cons_of_mem _ hx)))
    exact ⟨R, hp.trans (hR.cons d)⟩

theorem Stage.heap {l : List Oper} {T : Nat} {ps : List (Nat × Post)} {listed : Array Bool} {a : Act} {w : World} (st : Stage l T ps N D B w0 L H listed a w) {J : List Fact} (hJn : (J.map (·.1)).Nodup)
    (hJ : ∀ q ∈ J, ∃ j : Nat, ps[j]? = some (q.1, Post.rel q.2) ∧ listed.getD j true = true) :
    ∃ (hσ : Nat → Hp) (Is R : List Nat) (X : Hp), Is.Nodup ∧ (∀ d, d ∈ Is ↔ ∃ (j : Nat) (q : Nat × Post), ps[j]? = some q ∧ q.1 = d ∧ listed.getD j true = true) ∧ (Is.flatMap hσ).Perm ((J.flatMap fun q => hσ q.1) ++ R.flatMap hσ) ∧
      SH B w0 w ((J.flatMap fun q => hσ q.1) ++ ((R.flatMap hσ ++ X) ++ H)) ∧ (∀ (j : Nat) q, ps[j]? = some q → listed.getD j true = true → ∃ v, a.tmps[q.1]? = some v ∧ q.2.ok v (hσ q.1)) := by
  obtain ⟨hσ, Is, X, h1, h2, h3, h4⟩ := st.done
  obtain ⟨R, hR⟩ := perm_pick h1 hJn (fun d hd => by
    obtain ⟨q, hq, rfl⟩ := List.mem_map.1 hd
    obtain ⟨j, hj, hlj⟩ := hJ q hq
    exact (h2 _).2 ⟨j, _, hj, rfl, hlj⟩)
  have hp : (Is.flatMap hσ).Perm ((J.flatMap fun q => hσ q.1) ++ R.flatMap hσ) := by
    have := hR.flatMap_right hσ
    rw [List.flatMap_append, List.flatMap_map] at this
    exact this
  refine ⟨hσ, Is, R, X, h1, h2, hp, h3.perm ?_, h4⟩
  have := (hp.append_right (X ++ H)).symm
  simpa [List.append_assoc] using this
end

/-! ### The check, read -/
structure DrawOK (l : List Oper) (T : Nat) : Prop where
  hT : T ≤ l.length
  plain : ∀ o ∈ l, plainOp o.op = true
  back : ∀ i, i < l.length → ∀ k ∈ depsL l.toArray i, k < i
  look : ∀ i j d o oj, i < T → j < T → l[j]? = some oj → oj.dst = some d → l[i]? = some o → d ∈ o.looksAt l.toArray → j ∈ depsL l.toArray i ∨ i ∈ reachN l.toArray l.length (depsL l.toArray j)
  dist : ∀ i j oi oj, i < T → j < T → i ≠ j → l[i]? = some oi → l[j]? = some oj → oi.dst ≠ oj.dst
  tail : ∀ i, T ≤ i → i < l.length → ∀ k, k < i → k ∈ reachN l.toArray l.length (depsL l.toArray i)

theorem drawOk_spec {l : List Oper} {T : Nat} (h : drawOk l T = true) : DrawOK l T := by
  simp only [drawOk, Bool.and_eq_true] at h
  obtain ⟨⟨⟨⟨h1, h2⟩, h3⟩, h4⟩, h5⟩ := h
  refine ⟨by simpa using h1, fun o ho => List.all_eq_true.1 h2 o ho, fun i hi k hk => ?_, fun i j d o oj hi hj hoj hd ho hlk => ?_, fun i j oi oj hi hj hne hoi hoj => ?_, fun i hi hil k hk => ?_⟩
  · have := List.all_eq_true.1 (List.all_eq_true.1 h3 i (List.mem_range.2 hi)) k hk
    simpa using this
  · have := List.all_eq_true.1 (List.all_eq_true.1 h4 i (List.mem_range.2 hi)) j (List.mem_range.2 hj)
    rw [Bool.and_eq_true] at this
    have h6 := this.1
    have e1 : ((l.take T).map (·.dst))[j]? = some (some d) := by
      rw [List.getElem?_map, List.getElem?_take, if_pos hj, hoj, Option.map_some, hd]
    simp only [e1, ho, Bool.or_eq_true, Bool.not_eq_true'] at h6
    rcases h6 with (h6 | h6) | h6
    · exfalso
      have : (o.looksAt l.toArray).contains d = true := List.contains_iff_mem.2 hlk
      rw [this] at h6; cases h6
    · exact .inl (List.contains_iff_mem.1 h6)
    · exact .inr (List.contains_iff_mem.1 h6)
  · have := List.all_eq_true.1 (List.all_eq_true.1 h4 i (List.mem_range.2 hi)) j (List.mem_range.2 hj)
    rw [Bool.and_eq_true] at this
    have h6 := this.2
    rw [Bool.or_eq_true] at h6
    rcases h6 with h6 | h6
    · exact absurd (Nat.eq_of_beq_eq_true h6) hne
    · intro e
      have e1 : ((l.take T).map (·.dst))[i]? = some oi.dst := by
        rw [List.getElem?_map, List.getElem?_take, if_pos hi, hoi, Option.map_some]
      have e2 : ((l.take T).map (·.dst))[j]? = some oj.dst := by
        rw [List.getElem?_map, List.getElem?_take, if_pos hj, hoj, Option.map_some]
      rw [e1, e2, e] at h6
      simp at h6
  · have := List.all_eq_true.1 h5 i (List.mem_range.2 hil)
    rw [Bool.or_eq_true] at this
    rcases this with h | h
    · have : i < T := by simpa using h
      omega
    · exact List.contains_iff_mem.1 (List.all_eq_true.1 h k (List.mem_range.2 hk))

/-- What is listed is closed under 'waits for'. -/
def Closed (ops : Array Oper) (listed : Array Bool) : Prop := ∀ i, i < listed.size → listed.getD i true = true → ∀ k ∈ depsL ops i, listed.getD k true = true
theorem reach_listed {ops : Array Oper} {listed : Array Bool} (hc : Closed ops listed) (hsz : listed.size = ops.size) : ∀ (n : Nat) (S : List Nat), (∀ k ∈ S, listed.getD k true = true) → ∀ k ∈ reachN ops n S, listed.getD k true = true := by
  intro n
  induction n with
  | zero => intro S h; exact h
  | succ n ih =>
    intro S h
    refine ih _ (fun k hk => ?_)
    rw [List.mem_eraseDups] at hk
    rcases List.mem_append.1 hk with hk | hk
    · exact h k hk
    · obtain ⟨i, hi, hki⟩ := List.mem_flatMap.1 hk
      rcases Nat.lt_or_ge i listed.size with hlt | hge
      · exact hc i hlt (h i hi) k hki
      · have : ops[i]? = none := by simp; omega
        simp [depsL, this] at hki

section
variable {r : Option Nat} {P : Program} {Q : Exit → Act → World → Prop} {N : Nat} {D : List Deferred} {B : Nat} {w0 : World} {L : Env} {H : Hp}
theorem reach_lt {l : List Oper} (hb : ∀ i, i < l.length → ∀ k ∈ depsL l.toArray i, k < i) : ∀ (n : Nat) (S : List Nat) (j : Nat), (∀ k ∈ S, k < j) → ∀ k ∈ reachN l.toArray n S, j ≤ l.length → k < j := by
  intro n
  induction n with
  | zero => intro S j h k hk _; exact h k hk
  | succ n ih =>
    intro S j h k hk hj
    refine ih _ j (fun x hx => ?_) k hk hj
    have hx' := List.mem_eraseDups.1 hx
    rcases List.mem_append.1 hx' with h1 | h1
    · exact h x h1
    · obtain ⟨y, hy, hxy⟩ := List.mem_flatMap.1 h1
      have h2 := h y hy
      have := hb y (by omega) x hxy
      omega
theorem ready_deps {l : List Oper} {listed : Array Bool} {i : Nat} (h : i ∈ Region.ready .any l.toArray listed) : listed.getD i true = false ∧ (∃ o, l[i]? = some o) ∧ ∀ k ∈ depsL l.toArray i, listed.getD k false = true := by
  obtain ⟨h1, o, ho, h2⟩ := mem_ready.1 h
  refine ⟨h1, ⟨o, by simpa using ho⟩, fun k hk => ?_⟩
  simp only [depsL, ho] at hk
  obtain ⟨e, he, rfl⟩ := List.mem_map.1 hk
  obtain ⟨he1, he2⟩ := List.mem_filter.1 he
  exact h2 e (Array.mem_toList_iff.1 he1) he2
theorem getD_true {listed : Array Bool} {k : Nat} (h : listed.getD k false = true) : listed.getD k true = true ∧ k < listed.size := by
  rcases Nat.lt_or_ge k listed.size with hlt | hge
  · refine ⟨?_, hlt⟩
    simp [hlt] at h ⊢; exact h
  · simp [Array.getElem?_eq_none hge] at h
theorem ready_nil {l : List Oper} {listed : Array Bool} (hsz : listed.size = l.length) (hb : ∀ i, i < l.length → ∀ k ∈ depsL l.toArray i, k < i) (h : Region.ready .any l.toArray listed = []) : ∀ i, i < l.length → listed.getD i true = true := by
  intro i
  induction i using Nat.strongRecOn with
  | _ i ih =>
    intro hi
    cases hc : listed.getD i true with
    | true => rfl
    | false =>
      exfalso
      have : i ∈ Region.ready .any l.toArray listed := by
        refine mem_ready.2 ⟨hc, l[i], by simp [hi], fun e he hbn => ?_⟩
        have hk : e.on ∈ depsL l.toArray i := by
          simp only [depsL, List.getElem?_toArray, List.getElem?_eq_getElem hi]
          exact List.mem_map.2 ⟨e, List.mem_filter.2 ⟨Array.mem_toList_iff.2 he, hbn⟩, rfl⟩
        have h1 := hb i hi _ hk
        have h2 := ih _ h1 (by omega)
        have h3 : e.on < listed.size := by omega
        simp [h3] at h2 ⊢; exact h2
      rw [h] at this; cases this

theorem set_getD {listed : Array Bool} {i j : Nat} : (listed.setIfInBounds i true).getD j true = if i = j then true else listed.getD j true := by
  by_cases h : i = j
  · subst h
    rcases Nat.lt_or_ge i listed.size with hlt | hge
    · simp [hlt]
    · simp [Array.getElem?_eq_none (show (listed.setIfInBounds i true).size ≤ i by simpa using hge)]
  · rw [if_neg h, getD_set_ne true h]
theorem Closed.set {ops : Array Oper} {listed : Array Bool} {i : Nat} (h : Closed ops listed) (hd : ∀ k ∈ depsL ops i, listed.getD k true = true) : Closed ops (listed.setIfInBounds i true) := by
  intro j hj hlj k hk
  rw [set_getD] at hlj ⊢
  split
  · rfl
  · by_cases e : i = j
    · subst e; exact hd k hk
    · rw [if_neg e] at hlj
      exact h j (by simpa using hj) hlj k hk

/-- The tail: one order alone. -/
theorem wpAny_tail {l : List Oper} {T : Nat} (ok : DrawOK l T) : ∀ (fuel k : Nat) (listed : Array Bool) (a : Act) (w : World), listed.size = l.length → (∀ i, i < l.length → listed.getD i true = decide (i < k)) → T ≤ k → fuel + k = l.length →
    wpListIn (FW r) 0 P l.toArray Q (l.drop k) a w → wpAnyIn (FW r) 0 P .any l.toArray Q fuel listed a w := by
  intro fuel
  induction fuel with
  | zero =>
    intro k listed a w hsz hl hT hk h
    have : k = l.length := by omega
    subst this
    rw [List.drop_length] at h
    refine ⟨List.eq_nil_iff_forall_not_mem.2 fun i hi => ?_, h⟩
    obtain ⟨h1, ⟨o, ho⟩, _⟩ := ready_deps hi
    have hlt : i < l.length := (List.getElem?_eq_some_iff.1 ho).1
    rw [hl i hlt] at h1
    simp at h1; omega
  | succ fuel ih =>
    intro k listed a w hsz hl hT hk h
    have hclosed : Closed l.toArray listed := by
      intro i hi hli j hj
      have hi' : i < l.length := by omega
      have h1 := ok.back i hi' j hj
      rw [hl j (by omega)]
      rw [hl i hi'] at hli
      simp at hli ⊢; omega
    refine ⟨fun hnil => ?_, fun i hi => ?_⟩
    · have := ready_nil hsz ok.back hnil k (by omega)
      rw [hl k (by omega)] at this
      simp at this
    · obtain ⟨h1, ⟨o, ho⟩, h2⟩ := ready_deps hi
      have hlt : i < l.length := (List.getElem?_eq_some_iff.1 ho).1
      rw [hl i hlt] at h1
      have hge : k ≤ i := by simpa using h1
      have hik : i = k := by
        rcases Nat.eq_or_lt_of_le hge with h | h
        · exact h.symm
        · have h3 := ok.tail i (by omega) hlt k h
          have h4 := reach_listed hclosed (by simpa using hsz) l.length (depsL l.toArray i) (fun j hj => (getD_true (h2 j hj)).1) k h3
          rw [hl k (by omega)] at h4
          simp at h4
      subst hik
      have hdrop : l.drop i = o :: l.drop (i + 1) := by
        rw [List.drop_eq_getElem_cons hlt]
        congr 1
        rw [List.getElem?_eq_getElem hlt] at ho
        exact Option.some.inj ho
      rw [hdrop] at h
      have next : ∀ a w, wpListIn (FW r) 0 P l.toArray Q (l.drop (i + 1)) a w → wpAnyIn (FW r) 0 P .any l.toArray Q fuel (listed.setIfInBounds i true) a w := fun a w h => by
        refine ih (i + 1) _ a w (by simpa using hsz) (fun j hj => ?_) (by omega) (by omega) h
        rw [set_getD, hl j hj]
        by_cases e : i = j
        · subst e; simp
        · rw [if_neg e]; congr 1; rw [eq_iff_iff]; omega
      unfold wpOpIn
      simp only [List.getElem?_toArray, ho]
      unfold wpListIn at h
      split
      · rename_i hw
        rw [if_pos hw] at h
        exact Oper.wpIn_mono next h
      · rename_i hw
        rw [if_neg hw] at h
        exact ⟨h.1, next _ _ h.2⟩

theorem wanted_congr {ops : Array Oper} {o : Oper} {a a' : Act} (h : ∀ t ∈ o.looksAt ops, a.tmps.getD t undef = a'.tmps.getD t undef) : Region.wanted o (yielded ops a.tmps) = Region.wanted o (yielded ops a'.tmps) := by
  unfold Region.wanted
  cases hg : o.guard with
  | none => rfl
  | some g =>
    obtain ⟨j, b⟩ := g
    have : yielded ops a.tmps j = yielded ops a'.tmps j := by
      unfold yielded
      cases hd : (ops[j]?).bind (·.dst) with
      | none => rfl
      | some d =>
        have := h d (List.mem_append_right _ (by simp [hg, hd]))
        simp only [Array.getD_eq_getD_getElem?] at this
        simp only [Option.bind_some]
        cases h1 : a.tmps[d]? <;> cases h2 : a'.tmps[d]? <;> simp only [h1, h2, Option.getD_some, Option.getD_none] at this
        · rfl
        · rw [← this]; rfl
        · rw [this]; rfl
        · rw [this]
    simp only [this]
theorem eval_congr {ops : Array Oper} {o : Oper} {a a' : Act} (h : ∀ t ∈ o.looksAt ops, a.tmps.getD t undef = a'.tmps.getD t undef) : ∀ x ∈ o.op.operands, a.eval x = a'.eval x := by
  intro x hx
  cases x with
  | tmp t => exact h t (List.mem_append_left _ (List.mem_filterMap.2 ⟨.tmp t, Array.mem_toList_iff.2 hx, rfl⟩))
  | _ => rfl

theorem flatMap_congr' {Is : List Nat} {f g : Nat → Hp} (h : ∀ d ∈ Is, f d = g d) : Is.flatMap f = Is.flatMap g := by
  induction Is with
  | nil => rfl
  | cons d Is ih => rw [List.flatMap_cons, List.flatMap_cons, h d List.mem_cons_self, ih (fun x hx => h x (List.mem_cons_of_mem _ hx))]

/-- All ahead of the tail is done. -/
theorem wpAny_stage_done {l : List Oper} {T : Nat} {ps : List (Nat × Post)} (ok : DrawOK l T) (hlen : T = ps.length)
    (hidx : ∀ (i : Nat) q, ps[i]? = some q → i < T) (hnodup : (ps.map (·.1)).Nodup)
    (hK : AllF (fsA [] ps) fun EF G => TL r P Q N D B w0 (EF ++ envA L ps) (G ++ H) l.toArray (l.drop T)) {listed : Array Bool} {a : Act} {w : World} (hsz : listed.size = l.length)
    (hall : ∀ i, i < T → listed.getD i true = true) (hto : ∀ i, T ≤ i → i < l.length → listed.getD i true = false) (st : Stage l T ps N D B w0 L H listed a w) (fuel : Nat) (hf : fuel + T = l.length) :
    wpAnyIn (FW r) 0 P .any l.toArray Q fuel listed a w := by
  refine wpAny_tail ok fuel T listed a w hsz (fun i hi => ?_) (Nat.le_refl _) hf ?_
  · rcases Nat.lt_or_ge i T with h | h
    · rw [hall i h]; simp [h]
    · rw [hto i h hi]; simp; omega
  · have hJ : ∀ q ∈ fsA [] ps, ∃ j : Nat, ps[j]? = some (q.1, Post.rel q.2) ∧ listed.getD j true = true := fun q hq => by
      rcases (mem_fsA _ _ _).1 hq with h | ⟨j, hj⟩
      · cases h
      · exact ⟨j, hj, hall j (hidx j _ hj)⟩
    have hJn : ((fsA [] ps).map (·.1)).Nodup := fsA_nodup ps [] (by simpa using hnodup)
    obtain ⟨hσ, Is, R, X, _, _, _, hsh, hdone⟩ := st.heap hJn hJ
    have := AllF_inst (fun k => a.tmps.getD k undef) hσ _ _ hK (fun q hq => by
      obtain ⟨j, hj, hlj⟩ := hJ q hq
      obtain ⟨v, hv, hok⟩ := hdone j _ hj hlj
      have e : a.tmps.getD q.1 undef = v := by simp only at hv; simp [Array.getD_eq_getD_getElem?, hv]
      show q.2 (a.tmps.getD q.1 undef) _
      rw [e]; exact hok)
    refine this a w ⟨st.size, st.defers, fun t v h => ?_⟩ (hsh.sub ?_)
    · have hps : ps.take T = ps := by rw [hlen]; exact List.take_length
      refine st.lookup (i := T) (J := fsA [] ps) (fun j q hj _ => .inl ⟨hidx j q hj, hall j (hidx j q hj)⟩) hJ (fun q hq _ => by rw [hps] at hq; exact hq) (by rw [hps]; exact h)
    · exact (List.sublist_append_right _ H).append_left _

/-- The stages of a drawn order, to its tail. -/
theorem wpAny_stage {l : List Oper} {T : Nat} {ps : List (Nat × Post)} (ok : DrawOK l T) (hLN : ∀ k v, lk L k = some v → k < N) (hlen : T = ps.length)
    (hps : ∀ i o, (l.take T)[i]? = some o → ∃ q, ps[i]? = some q ∧ o.dst = some q.1 ∧ q.1 < N ∧ ObR r P N D B w0 H l.toArray o q (envA L (ps.take i)) (fsA [] (ps.take i)))
    (hK : AllF (fsA [] ps) fun EF G => TL r P Q N D B w0 (EF ++ envA L ps) (G ++ H) l.toArray (l.drop T)) :
    ∀ (fuel : Nat) (listed : Array Bool) (a : Act) (w : World), listed.size = l.length → (listed.toList.count false) = fuel → Closed l.toArray listed → (∀ i, T ≤ i → i < l.length → listed.getD i true = false) →
      Stage l T ps N D B w0 L H listed a w → wpAnyIn (FW r) 0 P .any l.toArray Q fuel listed a w := by
  have hpl : ∀ i, i < T → ∃ o q, l[i]? = some o ∧ ps[i]? = some q ∧ o.dst = some q.1 ∧ q.1 < N ∧ ObR r P N D B w0 H l.toArray o q (envA L (ps.take i)) (fsA [] (ps.take i)) := by
    intro i hi
    have hil : i < l.length := Nat.lt_of_lt_of_le hi ok.hT
    have : (l.take T)[i]? = some l[i] := by rw [List.getElem?_take, if_pos hi, List.getElem?_eq_getElem hil]
    obtain ⟨q, h1, h2, h3, h4⟩ := hps i _ this
    exact ⟨l[i], q, List.getElem?_eq_getElem hil, h1, h2, h3, h4⟩
  have hidx : ∀ (i : Nat) q, ps[i]? = some q → i < T := fun i q h => by rw [hlen]; exact (List.getElem?_eq_some_iff.1 h).1
  have huniq : ∀ (i j : Nat) q p, ps[i]? = some q → ps[j]? = some p → q.1 = p.1 → i = j := by
    intro i j q p hi hj e
    by_cases hne : i = j
    · exact hne
    · obtain ⟨oi, qi, h1, h2, h3, _⟩ := hpl i (hidx i q hi)
      obtain ⟨oj, qj, h4, h5, h6, _⟩ := hpl j (hidx j p hj)
      rw [hi] at h2; rw [hj] at h5
      cases h2; cases h5
      exact absurd (by rw [h3, h6, e]) (ok.dist i j oi oj (hidx i _ hi) (hidx j _ hj) hne h1 h4)
  have hnodup : (ps.map (·.1)).Nodup := by
    rw [List.nodup_iff_pairwise_ne, List.pairwise_iff_getElem]
    intro i j hi hj hij e
    rw [List.getElem_map, List.getElem_map] at e
    have hi' : i < ps.length := by simpa using hi
    have hj' : j < ps.length := by simpa using hj
    have := huniq i j _ _ (List.getElem?_eq_getElem hi') (List.getElem?_eq_getElem hj') e
    omega
  intro fuel
  induction fuel with
  | zero =>
    intro listed a w hsz hcnt hcl hto st
    exact (wpAny_stage_done ok hlen hidx hnodup hK hsz (fun i hi => by
      cases hc : listed.getD i true with
      | true => rfl
      | false =>
        exfalso
        have hlt : i < listed.size := by have := ok.hT; omega
        have : false ∈ listed.toList := by
          simp [hlt] at hc
          rw [← hc]; exact Array.getElem_mem_toList _
        exact absurd hcnt (by have := List.count_pos_iff.2 this; omega)) hto st 0 (by
      have : T = l.length := by
        rcases Nat.lt_or_ge T l.length with h | h
        · exfalso
          have h1 := hto T (Nat.le_refl _) h
          have hlt : T < listed.size := by omega
          have : false ∈ listed.toList := by
            simp [hlt] at h1
            rw [← h1]; exact Array.getElem_mem_toList _
          exact absurd hcnt (by have := List.count_pos_iff.2 this; omega)
        · have := ok.hT; omega
      omega))
  | succ fuel ih =>
    intro listed a w hsz hcnt hcl hto st
    by_cases hall : ∀ i, i < T → listed.getD i true = true
    · -- the tail begins
      have hf : fuel + 1 + T = l.length := by
        have h1 : ∀ (m : List Bool) (T : Nat), T ≤ m.length → (∀ i, i < T → m[i]? = some true) → (∀ i, T ≤ i → i < m.length → m[i]? = some false) → m.count false + T = m.length := by
          intro m
          induction m with
          | nil => intro T h _ _; simp at h; simp [h]
          | cons x m ihm =>
            intro T hT ht hf
            cases T with
            | zero =>
              have hx : x = false := by have := hf 0 (Nat.le_refl _) (by simp); simpa using this
              have := ihm 0 (Nat.zero_le _) (fun i hi => by omega) (fun i _ hi => by have := hf (i + 1) (by omega) (by simp; omega); simpa using this)
              subst hx
              simp at this ⊢; omega
            | succ T =>
              have hx : x = true := by have := ht 0 (by omega); simpa using this
              have := ihm T (by simpa using hT) (fun i hi => by have := ht (i + 1) (by omega); simpa using this) (fun i hi hil => by have := hf (i + 1) (by omega) (by simp; omega); simpa using this)
              subst hx
              simp at this ⊢; omega
        have := h1 listed.toList T (by have := ok.hT; simp; omega) (fun i hi => by
          have hlt : i < listed.size := by have := ok.hT; omega
          have := hall i hi
          simp [hlt] at this ⊢; exact this) (fun i hi hil => by
          have hlt : i < listed.size := by simpa using hil
          have := hto i hi (by omega)
          simp [hlt] at this ⊢; exact this)
        rw [hcnt] at this
        simp at this; omega
      exact wpAny_stage_done ok hlen hidx hnodup hK hsz hall hto st _ hf
    · have hnot : ∃ i, i < T ∧ listed.getD i true = false := by
        refine Classical.byContradiction fun hn => hall fun i hi => ?_
        cases hc : listed.getD i true with
        | true => rfl
        | false => exact absurd ⟨i, hi, hc⟩ hn
      refine ⟨fun hnil => ?_, fun i hi => ?_⟩
      · obtain ⟨i, hiT, hc⟩ := hnot
        have := ready_nil hsz ok.back hnil i (by have := ok.hT; omega)
        rw [this] at hc; cases hc
      · obtain ⟨hun, ⟨o, ho⟩, hdeps⟩ := ready_deps hi
        have hil : i < l.length := (List.getElem?_eq_some_iff.1 ho).1
        have hiT : i < T := by
          rcases Nat.lt_or_ge i T with h | h
          · exact h
          · exfalso
            obtain ⟨j, hjT, hc⟩ := hnot
            have h3 := ok.tail i h hil j (by omega)
            have h4 := reach_listed hcl (by simpa using hsz) l.length (depsL l.toArray i) (fun k hk => (getD_true (hdeps k hk)).1) j h3
            rw [h4] at hc; cases hc
        obtain ⟨o', q, ho', hq, hdst, hdN, hob⟩ := hpl i hiT
        rw [ho] at ho'
        cases ho'
        -- what it looks at has been written in turn
        have hturn : ∀ t ∈ o.looksAt l.toArray, ∀ (j : Nat) p, ps[j]? = some p → p.1 = t → (j < i ∧ listed.getD j true = true) ∨ (i < j ∧ listed.getD j true = false) := by
          intro t ht j p hp hpt
          obtain ⟨oj, pj, h1, h2, h3, _⟩ := hpl j (hidx j p hp)
          rw [hp] at h2
          cases h2
          have hj := ok.look i j t o oj hiT (hidx j p hp) h1 (by rw [h3, hpt]) ho ht
          rcases hj with hj | hj
          · exact .inl ⟨ok.back i hil j hj, (getD_true (hdeps j hj)).1⟩
          · have hjl : j < l.length := Nat.lt_of_lt_of_le (hidx j p hp) ok.hT
            refine .inr ⟨reach_lt ok.back l.length _ j (fun k hk => ok.back j hjl k hk) i hj (Nat.le_of_lt hjl), ?_⟩
            cases hlj : listed.getD j true with
            | false => rfl
            | true =>
              have h4 := reach_listed hcl (by simpa using hsz) l.length (depsL l.toArray j) (fun k hk => hcl j (by omega) hlj k hk) i hj
              rw [h4] at hun; cases hun
        -- the facts that it needs
        have hJ : ∀ f ∈ fltF l.toArray o (fsA [] (ps.take i)), ∃ j : Nat, ps[j]? = some (f.1, Post.rel f.2) ∧ listed.getD j true = true := by
          intro f hf
          obtain ⟨h1, h2⟩ := List.mem_filter.1 hf
          rcases (mem_fsA _ _ _).1 h1 with h | ⟨j, hj⟩
          · cases h
          · rw [List.getElem?_take] at hj
            split at hj
            · rename_i hji
              refine ⟨j, hj, ?_⟩
              rcases hturn f.1 (List.contains_iff_mem.1 h2) j _ hj rfl with h | h
              · exact h.2
              · omega
            · cases hj
        have hJn : ((fltF l.toArray o (fsA [] (ps.take i))).map (·.1)).Nodup := by
          have h1 : ((fsA [] (ps.take i)).map (·.1)).Nodup := fsA_nodup _ [] (by
            simp only [List.map_nil, List.nil_append]
            rw [List.map_take]
            exact (List.take_sublist _ _).nodup hnodup)
          exact ((List.filter_sublist (l := fsA [] (ps.take i)) (p := fun q => (o.looksAt l.toArray).contains q.1)).map (fun q : Fact => q.1)).nodup h1
        obtain ⟨hσ, Is, R, X, hIn, hIs, hperm, hsh, hdone⟩ := st.heap hJn hJ
        have hva : ∀ (j : Nat) p, ps[j]? = some p → listed.getD j true = true → ∃ v, a.tmps[p.1]? = some v ∧ a.tmps.getD p.1 undef = v ∧ p.2.ok v (hσ p.1) := by
          intro j p hp hlj
          obtain ⟨v, h1, h2⟩ := hdone j p hp hlj
          exact ⟨v, h1, by simp [Array.getD_eq_getD_getElem?, h1], h2⟩
        have hTL := AllF_inst (fun k => a.tmps.getD k undef) hσ _ _ hob (fun f hf => by
          obtain ⟨j, hj, hlj⟩ := hJ f hf
          obtain ⟨v, _, e, hok⟩ := hva j _ hj hlj
          show f.2 (a.tmps.getD f.1 undef) _
          rw [show a.tmps.getD f.1 undef = v from e]; exact hok) (R.flatMap hσ ++ X)
        -- the frame of its own walk
        obtain ⟨EE, hEE⟩ : ∃ EE, EE = (List.map (fun f : Fact => (f.1, a.tmps.getD f.1 undef)) (fltF l.toArray o (fsA [] (ps.take i)))) ++ envA L (ps.take i) := ⟨_, rfl⟩
        rw [← hEE] at hTL
        have hkN : ∀ k v, lk EE k = some v → k < N := by
          intro k v h
          rw [hEE, lk_append] at h
          cases hl : lk (List.map (fun f : Fact => (f.1, a.tmps.getD f.1 undef)) (fltF l.toArray o (fsA [] (ps.take i)))) k with
          | some u =>
            obtain ⟨_, f, hf, rfl⟩ := lk_map_some (va := fun k => a.tmps.getD k undef) hl
            obtain ⟨j, hj, _⟩ := hJ f hf
            obtain ⟨_, p, _, h2, _, h4, _⟩ := hpl j (hidx j _ hj)
            rw [hj] at h2; cases h2; exact h4
          | none =>
            rw [hl] at h
            rcases lk_envA _ _ _ _ h with ⟨j, c, h1, _⟩ | ⟨h1, _⟩
            · rw [List.getElem?_take] at h1
              split at h1
              · obtain ⟨_, p, _, h2, _, h4, _⟩ := hpl j (hidx j _ h1)
                rw [h1] at h2; cases h2; exact h4
              · cases h1
            · exact hLN k v h1
        let b : Act := { tmps := Array.ofFn (n := N) (fun k => match lk EE k with | some v => v | none => a.tmps.getD k undef), defers := a.defers }
        have hbget : ∀ k, k < N → b.tmps[k]? = some (match lk EE k with | some v => v | none => a.tmps.getD k undef) := by
          intro k hk
          simp [b, hk]
        have hFr : Fr N D EE b := ⟨by simp [b], st.defers, fun k v hk => by rw [hbget k (hkN k v hk), hk]⟩
        have hagree : ∀ t ∈ o.looksAt l.toArray, b.tmps.getD t undef = a.tmps.getD t undef := by
          intro t ht
          rcases Nat.lt_or_ge t N with htN | htN
          · rw [Array.getD_eq_getD_getElem?, hbget t htN]
            cases hl : lk EE t with
            | none => rfl
            | some v =>
              have := st.lookup (i := i) (J := fltF l.toArray o (fsA [] (ps.take i))) (t := t) (v := v) (hturn t ht) hJ
                (fun f hf hft => List.mem_filter.2 ⟨hf, List.contains_iff_mem.2 (hft ▸ ht)⟩) (by rw [hEE] at hl; exact hl)
              simp [this]
          · have h1 : b.tmps[t]? = none := by simp [b]; exact htN
            have h2 : a.tmps[t]? = none := by simp [st.size]; exact htN
            simp [Array.getD_eq_getD_getElem?, h1, h2]
        have hw0 := hTL b w hFr hsh
        -- what comes of it
        have hnext : ∀ (v : Value) (w' : World) (h : Hp), q.2.ok v h → SH B w0 w' (h ++ ((fltF l.toArray o (fsA [] (ps.take i))).flatMap (fun q => hσ q.1) ++ ((R.flatMap hσ ++ X) ++ H))) →
            wpAnyIn (FW r) 0 P .any l.toArray Q fuel (listed.setIfInBounds i true) (a.put o.dst v) w' := by
          intro v w' h hok hsh'
          have hilt : i < listed.size := by omega
          refine ih _ _ _ (by simpa using hsz) ?_ (hcl.set fun k hk => (getD_true (hdeps k hk)).1) (fun j hj hjl => ?_) ?_
          · have e : (listed.setIfInBounds i true).toList = listed.toList.set i true := by simp
            rw [e, List.count_set (by simpa using hilt)]
            have : listed.toList[i]'(by simpa using hilt) = false := by simp [hilt] at hun; simpa using hun
            simp [this, hcnt]
          · rw [set_getD, if_neg (by omega)]; exact hto j hj hjl
          · have hq1 : ∀ t, t ≠ q.1 → (a.put o.dst v).tmps[t]? = a.tmps[t]? := by
              intro t ht
              rw [hdst]
              simp [Act.put, Array.getElem?_setIfInBounds_ne (Ne.symm ht)]
            have hq2 : (a.put o.dst v).tmps[q.1]? = some v := by
              rw [hdst]
              simp [Act.put, st.size, hdN]
            refine ⟨by rw [hdst]; simp [Act.put, st.size], by rw [hdst]; exact st.defers, fun t u ht hno => ?_, ?_⟩
            · have hne : t ≠ q.1 := by
                rintro rfl
                have := hno i q hq rfl
                rw [set_getD, if_pos rfl] at this
                cases this
              rw [hq1 t hne]
              refine st.base t u ht (fun j p hp hpt => ?_)
              have := hno j p hp hpt
              rw [set_getD] at this
              split at this
              · cases this
              · exact this
            · have hqI : q.1 ∉ Is := by
                intro hm
                obtain ⟨j, p, hp, hpq, hlj⟩ := (hIs _).1 hm
                have := huniq j i p q hp hq hpq
                subst this
                rw [hlj] at hun; cases hun
              refine ⟨fun d => if d = q.1 then h else hσ d, q.1 :: Is, X, List.nodup_cons.2 ⟨hqI, hIn⟩, fun d => ?_, ?_, fun j p hp hlj => ?_⟩
              · rw [List.mem_cons, hIs]
                constructor
                · rintro (rfl | ⟨j, p, hp, hpd, hlj⟩)
                  · exact ⟨i, q, hq, rfl, by rw [set_getD, if_pos rfl]⟩
                  · refine ⟨j, p, hp, hpd, ?_⟩
                    rw [set_getD]; split
                    · rfl
                    · exact hlj
                · rintro ⟨j, p, hp, hpd, hlj⟩
                  by_cases e : i = j
                  · subst e
                    rw [hq] at hp; cases hp
                    exact .inl hpd.symm
                  · rw [set_getD, if_neg e] at hlj
                    exact .inr ⟨j, p, hp, hpd, hlj⟩
              · refine hsh'.perm ?_
                rw [List.flatMap_cons, if_pos rfl, flatMap_congr' (g := hσ) (fun d hd => by
                  have hne : d ≠ q.1 := by rintro rfl; exact hqI hd
                  rw [if_neg hne])]
                have := (hperm.append_right (X ++ H))
                rw [List.append_assoc]
                refine List.Perm.append_left h ?_
                simpa [List.append_assoc] using this
              · by_cases e : i = j
                · subst e
                  rw [hq] at hp; cases hp
                  exact ⟨v, hq2, by simpa using hok⟩
                · rw [set_getD, if_neg e] at hlj
                  obtain ⟨u, h1, h2⟩ := hdone j p hp hlj
                  have hne : p.1 ≠ q.1 := fun e' => e (huniq i j q p hq hp e'.symm)
                  exact ⟨u, by rw [hq1 _ hne]; exact h1, by simpa [hne] using h2⟩
        have hread : ∀ (v : Value) (w' : World), wpListIn (FW r) 0 P l.toArray (QR D B w0 q.1 q.2.ok ((fltF l.toArray o (fsA [] (ps.take i))).flatMap (fun q => hσ q.1) ++ ((R.flatMap hσ ++ X) ++ H))) [] (b.put o.dst v) w' →
            wpAnyIn (FW r) 0 P .any l.toArray Q fuel (listed.setIfInBounds i true) (a.put o.dst v) w' := by
          rintro v w' ⟨_, _, v', h, hv', hok, hsh'⟩
          have : v' = v := by
            rw [hdst] at hv'
            have hsz' : b.tmps.size = N := by simp [b]
            simp [Act.put, hsz', hdN] at hv'
            exact hv'.symm
          subst this
          exact hnext v' w' h hok hsh'
        have hplain := ok.plain o (List.mem_of_getElem? ho)
        have hnd : ∀ c, o.op ≠ .defer c := fun c e => by rw [e] at hplain; cases hplain
        have hns : ∀ cs bb, o.op ≠ .select cs bb := fun c bb e => by rw [e] at hplain; cases hplain
        have hexec : execOp b.eval o = execOp a.eval o := execOp_congr o hns (eval_congr hagree)
        unfold wpOpIn
        simp only [List.getElem?_toArray, ho]
        unfold wpListIn at hw0
        rw [wanted_congr hagree] at hw0
        split
        · rename_i hwant
          rw [if_pos hwant] at hw0
          refine ⟨fun _ _ => trivial, ?_⟩
          have h2 := hw0.2
          rw [semAt_any hnd, hexec] at h2
          rw [semAt_any hnd]
          generalize (execOp a.eval o).run P w = res at *
          cases res with
          | ok x w' =>
            cases x <;> simp only [Oper.uponIn] at h2 ⊢
            case value v => exact hread v w' h2
            case skip => exact hread _ w' h2
            case enter f args =>
              refine ⟨h2.1, CallsIn.mono h2.2 fun e w'' he => ?_⟩
              cases e with
              | returned v => exact hread v w'' he
              | panicked ch => cases he.1
              | outgrown => obtain ⟨_, _, he⟩ := he; cases he.1
            case row row args => exact ⟨h2.1, RowsIn.mono h2.2 fun v w'' he => hread v w'' he⟩
            case round lp f tm asg bd =>
              refine ⟨h2.1, RoundIn.mono h2.2 fun e w'' he => ?_⟩
              cases e with
              | returned v => exact hread v w'' he
              | panicked ch => cases he.1
              | outgrown => obtain ⟨_, _, he⟩ := he; cases he.1
            case defer dd =>
              exfalso
              have h3 : dd :: b.defers = D := by
                have := h2.2.1
                rw [hdst] at this
                exact this
              have h4 : b.defers = D := hFr.defers
              rw [h4] at h3
              have := congrArg List.length h3
              simp at this
          | halt x w' =>
            cases x <;> simp only [Oper.uponIn] at h2 ⊢
            case panic v => cases h2.1
        · rename_i hwant
          rw [if_neg hwant] at hw0
          exact ⟨fun _ _ => trivial, hread _ _ hw0.2⟩

theorem count_replicate (n : Nat) : ((Array.replicate n false).toList.count false) = n := by simp

/-- **A region that draws its order**: T operations ahead of the tail, walked each from what it looks at ('PG'); then the tail. -/
theorem TC_draw {id : Nat} {l : List Oper} (T : Nat) {ps : List (Nat × Post)} (hc : drawOk l T = true) (hm : P.follows .mixedOrders = true) (hPG : PG r P N D B w0 H l.toArray (l.take T) L [] ps)
    (hK : AllF (fsA [] ps) fun EF G => TL r P Q N D B w0 (EF ++ envA L ps) (G ++ H) l.toArray (l.drop T)) : TC r P Q N D B w0 L H (.region id l.toArray true) := by
  intro a w hf hs
  have ok := drawOk_spec hc
  obtain ⟨hlen, hps⟩ := PG_spec hPG
  have hT : T = ps.length := by rw [← hlen, List.length_take]; have := ok.hT; omega
  refine wpIn_region_any hm ?_
  have hrep : ∀ i, i < l.length → (Array.replicate l.toArray.size false).getD i true = false := fun i hi => by simp [hi]
  refine wpAny_stage ok (fun k v h => ?_) hT hps hK _ _ a _ (by simp) (by simp) ?_ (fun i _ hi => by simpa using hrep i hi) ⟨hf.size, hf.defers, fun t v h _ => hf.get t v h, fun _ => [], [], [], List.nodup_nil, fun d => ?_, ?_, fun j q hj hl => ?_⟩
  · have := (Array.getElem?_eq_some_iff.1 (hf.get k v h)).1
    rw [hf.size] at this; exact this
  · intro i hi hli
    exfalso
    have h1 : i < l.length := by simpa using hi
    rw [hrep i h1] at hli; cases hli
  · constructor
    · intro h; cases h
    · rintro ⟨j, q, hj, _, hl⟩
      exfalso
      have h1 : j < l.length := by have := (List.getElem?_eq_some_iff.1 hj).1; have := ok.hT; omega
      rw [hrep j h1] at hl; cases hl
  · exact hs.drew
  · exfalso
    have h1 : j < l.length := by have := (List.getElem?_eq_some_iff.1 hj).1; have := ok.hT; omega
    rw [hrep j h1] at hl; cases hl

theorem TQ_QV {d : Nat} {c : Value} {H1 H' : Hp} (hl : lk L d = some c) (hH : ∀ w, SH B w0 w H1 → SH B w0 w H') : TQ (QV D B w0 d c H') N D B w0 L H1 .normal :=
  fun _ _ hf hs => ⟨rfl, hf.defers, hf.get _ _ hl, hH _ hs⟩
theorem TQ_QR {d : Nat} {Φ : Value → Hp → Prop} {v : Value} {h H1 H' : Hp} (hl : lk L d = some v) (hΦ : Φ v h) (hH : ∀ w, SH B w0 w H1 → SH B w0 w (h ++ H')) : TQ (QR D B w0 d Φ H') N D B w0 L H1 .normal :=
  fun _ _ hf hs => ⟨rfl, hf.defers, v, h, hf.get _ _ hl, hΦ, hH _ hs⟩
/-- A new variable laid ahead of the tail. -/
def isNew (B : Nat) (z : List Value) (t : TypeId) : Value → Hp → Prop := fun v h => ∃ b, B ≤ b ∧ v = .pointer (some ⟨b, 0, none⟩) ∧ h = [(b, .cells z t)]
end
end Go.Eng
