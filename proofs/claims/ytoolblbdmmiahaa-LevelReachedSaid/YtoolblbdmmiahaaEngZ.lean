/- The engine: drawn regions in which a variable is laid and one store into it floats. -/
import Derived.Test.YtoolblbdmmiahaaEngX
namespace Go.Eng
open Go Go.RowKit
set_option linter.unusedVariables false

def drawOk4 (l : List Oper) (T s u dt : Nat) : Bool :=
  drawOk2 l T s u && ((List.range T).all fun i => match l[i]? with | some o => Nat.beq i s || !(o.looksAt l.toArray).contains dt | none => true)
structure DrawOK4 (l : List Oper) (T s u dt : Nat) : Prop where
  ok2 : DrawOK2 l T s u
  only : ∀ (i : Nat) o, i < T → l[i]? = some o → i ≠ s → dt ∉ o.looksAt l.toArray
theorem drawOk4_spec {l : List Oper} {T s u dt : Nat} (h : drawOk4 l T s u dt = true) : DrawOK4 l T s u dt := by
  simp only [drawOk4, Bool.and_eq_true] at h
  refine ⟨drawOk2_spec h.1, fun i o hi ho hne hm => ?_⟩
  have := List.all_eq_true.1 h.2 i (List.mem_range.2 hi)
  simp only [ho, Bool.or_eq_true, Bool.not_eq_true'] at this
  rcases this with h1 | h1
  · exact hne (Nat.eq_of_beq_eq_true h1)
  · have h4 := List.contains_iff_mem.2 hm
    rw [h1] at h4; cases h4
/-- An end in which one block has turned. -/
def bodyQ4 (N : Nat) (D : List Deferred) (B : Nat) (w0 : World) (Ψ : Hp → Prop) (H' : Hp) : Exit → Act → World → Prop := fun e a w => e = .normal ∧ a.tmps.size = N ∧ a.defers = D ∧ ∃ h', Ψ h' ∧ SH B w0 w (h' ++ H')
section
variable (r : Option Nat) (P : Program) (N : Nat) (D : List Deferred) (B : Nat) (w0 : World) (H : Hp) (u dt : Nat) (Ψ : Value → Hp → Prop) (ops : Array Oper)
def ObS4 (o : Oper) (E : Env) (Fs : List Fact) : Prop :=
  ∃ Φ : Value → Hp → Prop, fltF ops o Fs = [(dt, Φ)] ∧ ∀ v h, Φ v h → ∀ X : Hp, TL r P (bodyQ4 N D B w0 (Ψ v) (X ++ H)) N D B w0 ((dt, v) :: E) (h ++ (X ++ H)) ops [o]
inductive PG4 : List Oper → Env → List Fact → List (Nat × Post) → Prop
  | nil {E Fs} : PG4 [] E Fs []
  | val {o rest E Fs d c ps} : o.dst = some d → Nat.blt d N = true → (AllF (fltF ops o Fs) fun EF G => ∀ X : Hp, TL r P (QV D B w0 d c (G ++ (X ++ H))) N D B w0 (EF ++ E) (G ++ (X ++ H)) ops [o]) →
      PG4 rest ((d, c) :: E) Fs ps → PG4 (o :: rest) E Fs ((d, .val c) :: ps)
  | rel {o rest E Fs d ps} (Φ : Value → Hp → Prop) : o.dst = some d → Nat.blt d N = true → (AllF (fltF ops o Fs) fun EF G => ∀ X : Hp, TL r P (QR D B w0 d Φ (G ++ (X ++ H))) N D B w0 (EF ++ E) (G ++ (X ++ H)) ops [o]) →
      PG4 rest E ((d, Φ) :: Fs) ps → PG4 (o :: rest) E Fs ((d, .rel Φ) :: ps)
  | sto {o rest E Fs ps} : o.dst = none → Nat.blt u N = true → ObS4 r P N D B w0 H dt Ψ ops o E Fs →
      PG4 rest E ((u, fun _ h => h = []) :: Fs) ps → PG4 (o :: rest) E Fs ((u, .rel (fun _ h => h = [])) :: ps)
end
/-- What is known of a slot's heap, once the store is done or not. -/
def okF (s dt : Nat) (Ψ : Value → Hp → Prop) (listed : Array Bool) (q : Nat × Post) (v : Value) (h : Hp) : Prop := (q.1 = dt ∧ listed.getD s true = true → Ψ v h) ∧ (¬ (q.1 = dt ∧ listed.getD s true = true) → q.2.ok v h)
def fsB (dt : Nat) (Ψ : Value → Hp → Prop) (Fs : List Fact) : List Fact := Fs.map fun f => if f.1 = dt then (dt, Ψ) else f
theorem fsB_map {α : Type} (dt : Nat) (Ψ : Value → Hp → Prop) (g : Nat → α) (Fs : List Fact) : (fsB dt Ψ Fs).map (fun q => g q.1) = Fs.map (fun q => g q.1) := by
  unfold fsB
  rw [List.map_map]
  apply List.map_congr_left
  intro f _
  simp only [Function.comp]
  split
  · rename_i h; rw [h]
  · rfl
theorem fsB_flat (dt : Nat) (Ψ : Value → Hp → Prop) (g : Nat → Hp) (Fs : List Fact) : (fsB dt Ψ Fs).flatMap (fun q => g q.1) = Fs.flatMap (fun q => g q.1) := by
  induction Fs with
  | nil => rfl
  | cons f Fs ih =>
    have e : fsB dt Ψ (f :: Fs) = (if f.1 = dt then (dt, Ψ) else f) :: fsB dt Ψ Fs := rfl
    rw [e, List.flatMap_cons, List.flatMap_cons, ih]
    congr 1
    split
    · rename_i h; rw [h]
    · rfl
section
variable {r : Option Nat} {P : Program} {Q : Exit → Act → World → Prop} {N : Nat} {D : List Deferred} {B : Nat} {w0 : World} {L : Env} {H : Hp} {ops : Array Oper} {rest : List Oper} {s u dt : Nat} {Ψ : Value → Hp → Prop}

theorem PG4_spec {l : List Oper} {E : Env} {Fs : List Fact} {ps : List (Nat × Post)} (h : PG4 r P N D B w0 H u dt Ψ ops l E Fs ps) :
    l.length = ps.length ∧ ∀ (i : Nat) o, l[i]? = some o → ∃ q, ps[i]? = some q ∧ q.1 < N ∧ ((o.dst = some q.1 ∧ ObR r P N D B w0 H ops o q (envA E (ps.take i)) (fsA Fs (ps.take i))) ∨ (o.dst = none ∧ q = (u, Post.rel (fun _ h => h = [])) ∧ ObS4 r P N D B w0 H dt Ψ ops o (envA E (ps.take i)) (fsA Fs (ps.take i)))) := by
  induction h with
  | nil => exact ⟨rfl, fun i o h => by simp at h⟩
  | val hd hN hob _ ih =>
    refine ⟨by simp [ih.1], fun i o h => ?_⟩
    cases i with
    | zero =>
      simp at h; subst h
      refine ⟨_, rfl, by simpa using hN, .inl ⟨hd, ?_⟩⟩
      exact AllF.mono (fun EF G hh X => (hh X).mono_Q (fun e a w ⟨h1, h0, h2, h3⟩ => ⟨h1, h0, _, [], h2, ⟨rfl, rfl⟩, h3⟩)) hob
    | succ i =>
      obtain ⟨q, h1, h2⟩ := ih.2 i o (by simpa using h)
      exact ⟨q, by simpa using h1, h2⟩
  | rel Φ hd hN hob _ ih =>
    refine ⟨by simp [ih.1], fun i o h => ?_⟩
    cases i with
    | zero =>
      simp at h; subst h
      exact ⟨_, rfl, by simpa using hN, .inl ⟨hd, hob⟩⟩
    | succ i =>
      obtain ⟨q, h1, h2⟩ := ih.2 i o (by simpa using h)
      exact ⟨q, by simpa using h1, h2⟩
  | sto hd hN hob _ ih =>
    refine ⟨by simp [ih.1], fun i o h => ?_⟩
    cases i with
    | zero =>
      simp at h; subst h
      exact ⟨_, rfl, by simpa using hN, .inr ⟨hd, rfl, hob⟩⟩
    | succ i =>
      obtain ⟨q, h1, h2⟩ := ih.2 i o (by simpa using h)
      exact ⟨q, by simpa using h1, h2⟩
structure Stage4 (l : List Oper) (T : Nat) (ps : List (Nat × Post)) (N : Nat) (D : List Deferred) (B : Nat) (w0 : World) (L : Env) (H : Hp) (s dt : Nat) (Ψ : Value → Hp → Prop) (listed : Array Bool) (a : Act) (w : World) : Prop where
  size : a.tmps.size = N
  defers : a.defers = D
  base : ∀ t v, lk L t = some v → (∀ (j : Nat) q, ps[j]? = some q → q.1 = t → listed.getD j true = false) → a.tmps[t]? = some v
  done : ∃ (hσ : Nat → Hp) (Is : List Nat) (X : Hp), Is.Nodup ∧ (∀ d, d ∈ Is ↔ ∃ (j : Nat) (q : Nat × Post), ps[j]? = some q ∧ q.1 = d ∧ listed.getD j true = true) ∧
    SH B w0 w (Is.flatMap hσ ++ (X ++ H)) ∧ ∀ (j : Nat) q, ps[j]? = some q → listed.getD j true = true → ∃ v, a.tmps[q.1]? = some v ∧ okF s dt Ψ listed q v (hσ q.1)

theorem Stage4.lookup {l : List Oper} {T : Nat} {ps : List (Nat × Post)} {listed : Array Bool} {a : Act} {w : World} (st : Stage4 l T ps N D B w0 L H s dt Ψ listed a w) (hdv : ∀ (j : Nat) c, ps[j]? ≠ some (dt, Post.val c)) {i : Nat} {J : List Fact} {t : Nat} {v : Value}
    (hturn : ∀ (j : Nat) q, ps[j]? = some q → q.1 = t → (j < i ∧ listed.getD j true = true) ∨ (i < j ∧ listed.getD j true = false)) (hJ : ∀ q ∈ J, ∃ j : Nat, ps[j]? = some (q.1, Post.rel q.2) ∧ listed.getD j true = true)
    (hJt : ∀ q ∈ fsA [] (ps.take i), q.1 = t → q ∈ J)
    (h : lk ((J.map fun q => (q.1, a.tmps.getD q.1 undef)) ++ envA L (ps.take i)) t = some v) : a.tmps[t]? = some v := by
  obtain ⟨hσ, Is, X, _, _, _, hdone⟩ := st.done
  rw [lk_append] at h
  cases hl : lk (J.map fun q => (q.1, a.tmps.getD q.1 undef)) t with
  | some u =>
    rw [hl] at h
    cases h
    obtain ⟨h1, q, hq, h2⟩ := lk_map_some (va := fun k => a.tmps.getD k undef) hl
    subst h2
    obtain ⟨j, hj, hlj⟩ := hJ q hq
    obtain ⟨v', hv', _⟩ := hdone j _ hj hlj
    rw [h1]
    simp only at hv'
    simp [Array.getD_eq_getD_getElem?, hv']
  | none =>
    rw [hl] at h
    rcases lk_envA _ _ _ _ h with ⟨j, c, h1, h2⟩ | ⟨h1, h2⟩
    · subst h2
      rw [List.getElem?_take] at h1
      split at h1
      · rename_i hji
        have hlj : listed.getD j true = true := by
          rcases hturn j _ h1 rfl with h | h
          · exact h.2
          · omega
        obtain ⟨v', hv', hv2⟩ := hdone j _ h1 hlj
        have h3 := hv2.2 (fun hh => by
          have : t = dt := hh.1
          subst this
          exact hdv j _ h1)
        rw [h3.1] at hv'; exact hv'
      · cases h1
    · refine st.base t v h1 (fun j q hj hq => ?_)
      rcases hturn j q hj hq with ⟨hji, hlj⟩ | h
      rotate_left
      · exact h.2
      exfalso
      subst hq
      obtain ⟨d, p⟩ := q
      have ht : (ps.take i)[j]? = some (d, p) := by rw [List.getElem?_take, if_pos hji]; exact hj
      cases p with
      | val c => exact h2 j c ht
      | rel Φ =>
        have hm := hJt (d, Φ) ((mem_fsA _ _ _).2 (.inr ⟨j, ht⟩)) rfl
        exact lk_map_none (va := fun k => a.tmps.getD k undef) hl _ hm rfl

theorem Stage4.heap {l : List Oper} {T : Nat} {ps : List (Nat × Post)} {listed : Array Bool} {a : Act} {w : World} (st : Stage4 l T ps N D B w0 L H s dt Ψ listed a w) {J : List Fact} (hJn : (J.map (·.1)).Nodup)
    (hJ : ∀ q ∈ J, ∃ j : Nat, ps[j]? = some (q.1, Post.rel q.2) ∧ listed.getD j true = true) :
    ∃ (hσ : Nat → Hp) (Is R : List Nat) (X : Hp), Is.Nodup ∧ (∀ d, d ∈ Is ↔ ∃ (j : Nat) (q : Nat × Post), ps[j]? = some q ∧ q.1 = d ∧ listed.getD j true = true) ∧ Is.Perm (J.map (·.1) ++ R) ∧ (Is.flatMap hσ).Perm ((J.flatMap fun q => hσ q.1) ++ R.flatMap hσ) ∧
      SH B w0 w ((J.flatMap fun q => hσ q.1) ++ ((R.flatMap hσ ++ X) ++ H)) ∧ (∀ (j : Nat) q, ps[j]? = some q → listed.getD j true = true → ∃ v, a.tmps[q.1]? = some v ∧ okF s dt Ψ listed q v (hσ q.1)) := by
  obtain ⟨hσ, Is, X, h1, h2, h3, h4⟩ := st.done
  obtain ⟨R, hR⟩ := perm_pick h1 hJn (fun d hd => by
    obtain ⟨q, hq, rfl⟩ := List.mem_map.1 hd
    obtain ⟨j, hj, hlj⟩ := hJ q hq
    exact (h2 _).2 ⟨j, _, hj, rfl, hlj⟩)
  have hp : (Is.flatMap hσ).Perm ((J.flatMap fun q => hσ q.1) ++ R.flatMap hσ) := by
    have := hR.flatMap_right hσ
    rw [List.flatMap_append, List.flatMap_map] at this
    exact this
  refine ⟨hσ, Is, R, X, h1, h2, hR, hp, h3.perm ?_, h4⟩
  have := (hp.append_right (X ++ H)).symm
  simpa [List.append_assoc] using this

/-- All ahead of the tail is done. -/
theorem wpAny_stage_done4 {l : List Oper} {T : Nat} {ps : List (Nat × Post)} (ok : DrawOK4 l T s u dt) (hlen : T = ps.length)
    (hidx : ∀ (i : Nat) q, ps[i]? = some q → i < T) (hnodup : (ps.map (·.1)).Nodup) (hsT : s < T) (hdv : ∀ (j : Nat) c, ps[j]? ≠ some (dt, Post.val c))
    (hK : AllF (fsB dt Ψ (fsA [] ps)) fun EF G => TL r P Q N D B w0 (EF ++ envA L ps) (G ++ H) l.toArray (l.drop T)) {listed : Array Bool} {a : Act} {w : World} (hsz : listed.size = l.length)
    (hall : ∀ i, i < T → listed.getD i true = true) (hto : ∀ i, T ≤ i → i < l.length → listed.getD i true = false) (st : Stage4 l T ps N D B w0 L H s dt Ψ listed a w) (fuel : Nat) (hf : fuel + T = l.length) :
    wpAnyIn (FW r) 0 P .any l.toArray Q fuel listed a w := by
  refine wpAny_tail ok.ok2.ok fuel T listed a w hsz (fun i hi => ?_) (Nat.le_refl _) hf ?_
  · rcases Nat.lt_or_ge i T with h | h
    · rw [hall i h]; simp [h]
    · rw [hto i h hi]; simp; omega
  · have hJ : ∀ q ∈ fsA [] ps, ∃ j : Nat, ps[j]? = some (q.1, Post.rel q.2) ∧ listed.getD j true = true := fun q hq => by
      rcases (mem_fsA _ _ _).1 hq with h | ⟨j, hj⟩
      · cases h
      · exact ⟨j, hj, hall j (hidx j _ hj)⟩
    have hJn : ((fsA [] ps).map (·.1)).Nodup := fsA_nodup ps [] (by simpa using hnodup)
    obtain ⟨hσ, Is, R, X, _, _, _, _, hsh, hdone⟩ := st.heap hJn hJ
    have := AllF_inst (fun k => a.tmps.getD k undef) hσ _ _ hK (fun q hq => by
      obtain ⟨f, hf, rfl⟩ := List.mem_map.1 hq
      obtain ⟨j, hj, hlj⟩ := hJ f hf
      obtain ⟨v, hv, hok⟩ := hdone j _ hj hlj
      have e : a.tmps.getD f.1 undef = v := by simp only at hv; simp [Array.getD_eq_getD_getElem?, hv]
      by_cases hd : f.1 = dt
      · rw [if_pos hd]
        show Ψ (a.tmps.getD dt undef) (hσ dt)
        rw [← hd, e]; exact hok.1 ⟨hd, hall s hsT⟩
      · rw [if_neg hd]
        show f.2 (a.tmps.getD f.1 undef) _
        rw [e]; exact hok.2 (fun hh => hd hh.1))
    rw [fsB_map dt Ψ (fun k => (k, a.tmps.getD k undef)), fsB_flat dt Ψ hσ] at this
    refine this a w ⟨st.size, st.defers, fun t v h => ?_⟩ (hsh.sub ?_)
    · have hps : ps.take T = ps := by rw [hlen]; exact List.take_length
      refine st.lookup hdv (i := T) (J := fsA [] ps) (fun j q hj _ => .inl ⟨hidx j q hj, hall j (hidx j q hj)⟩) hJ (fun q hq _ => by rw [hps] at hq; exact hq) (by rw [hps]; exact h)
    · refine (List.Sublist.append_left ?_ _)
      exact List.sublist_append_right _ _

/-- The stages of a drawn order, to its tail. -/
theorem wpAny_stage4 {l : List Oper} {T : Nat} {ps : List (Nat × Post)} (ok : DrawOK4 l T s u dt) (hLN : ∀ k v, lk L k = some v → k < N) (hlen : T = ps.length) (hsT : s < T)
    (hps : ∀ (i : Nat) o, (l.take T)[i]? = some o → ∃ q, ps[i]? = some q ∧ q.1 < N ∧ ((o.dst = some q.1 ∧ ObR r P N D B w0 H l.toArray o q (envA L (ps.take i)) (fsA [] (ps.take i))) ∨ (o.dst = none ∧ q = (u, Post.rel (fun _ h => h = [])) ∧ ObS4 r P N D B w0 H dt Ψ l.toArray o (envA L (ps.take i)) (fsA [] (ps.take i)))))
    (hK : AllF (fsB dt Ψ (fsA [] ps)) fun EF G => TL r P Q N D B w0 (EF ++ envA L ps) (G ++ H) l.toArray (l.drop T)) :
    ∀ (fuel : Nat) (listed : Array Bool) (a : Act) (w : World), listed.size = l.length → (listed.toList.count false) = fuel → Closed l.toArray listed → (∀ i, T ≤ i → i < l.length → listed.getD i true = false) →
      Stage4 l T ps N D B w0 L H s dt Ψ listed a w → wpAnyIn (FW r) 0 P .any l.toArray Q fuel listed a w := by
  have hpl : ∀ i, i < T → ∃ o q, l[i]? = some o ∧ ps[i]? = some q ∧ q.1 < N ∧ ((o.dst = some q.1 ∧ ObR r P N D B w0 H l.toArray o q (envA L (ps.take i)) (fsA [] (ps.take i))) ∨ (o.dst = none ∧ q = (u, Post.rel (fun _ h => h = [])) ∧ ObS4 r P N D B w0 H dt Ψ l.toArray o (envA L (ps.take i)) (fsA [] (ps.take i)))) := by
    intro i hi
    have hil : i < l.length := Nat.lt_of_lt_of_le hi ok.ok2.ok.hT
    have : (l.take T)[i]? = some l[i] := by rw [List.getElem?_take, if_pos hi, List.getElem?_eq_getElem hil]
    obtain ⟨q, h1, h2, h3⟩ := hps i _ this
    exact ⟨l[i], q, List.getElem?_eq_getElem hil, h1, h2, h3⟩
  have hidx : ∀ (i : Nat) q, ps[i]? = some q → i < T := fun i q h => by rw [hlen]; exact (List.getElem?_eq_some_iff.1 h).1
  have huniq : ∀ (i j : Nat) q p, ps[i]? = some q → ps[j]? = some p → q.1 = p.1 → i = j := by
    intro i j q p hi hj e
    by_cases hne : i = j
    · exact hne
    · obtain ⟨oi, qi, h1, h2, _, h3⟩ := hpl i (hidx i q hi)
      obtain ⟨oj, qj, h4, h5, _, h6⟩ := hpl j (hidx j p hj)
      rw [hi] at h2; rw [hj] at h5
      cases h2; cases h5
      have ui := ok.ok2.un i oi (hidx i _ hi) h1
      have uj := ok.ok2.un j oj (hidx j _ hj) h4
      rcases h3 with ⟨h3, _⟩ | ⟨h3, hu3, _⟩
      · rcases h6 with ⟨h6, _⟩ | ⟨h6, hu6, _⟩
        · exact absurd (by rw [h3, h6, e]) (ok.ok2.ok.dist i j oi oj (hidx i _ hi) (hidx j _ hj) hne h1 h4)
        · exact absurd (by rw [h3, e, hu6]) ui.2
      · rcases h6 with ⟨h6, _⟩ | ⟨h6, hu6, _⟩
        · exact absurd (by rw [h6, ← e, hu3]) uj.2
        · exact absurd (by rw [h3, h6]) (ok.ok2.ok.dist i j oi oj (hidx i _ hi) (hidx j _ hj) hne h1 h4)
  have hnodup : (ps.map (·.1)).Nodup := by
    rw [List.nodup_iff_pairwise_ne, List.pairwise_iff_getElem]
    intro i j hi hj hij e
    rw [List.getElem_map, List.getElem_map] at e
    have hi' : i < ps.length := by simpa using hi
    have hj' : j < ps.length := by simpa using hj
    have := huniq i j _ _ (List.getElem?_eq_getElem hi') (List.getElem?_eq_getElem hj') e
    omega
  -- the slot of the variable
  obtain ⟨js, Φs, hjs, hjsl⟩ : ∃ (js : Nat) (Φs : Value → Hp → Prop), ps[js]? = some (dt, Post.rel Φs) ∧ js < s := by
    obtain ⟨o, q, h1, h2, _, h3⟩ := hpl s hsT
    have hn := (ok.ok2.st s o hsT h1).2 rfl
    rcases h3 with ⟨h3, _⟩ | ⟨_, _, Φ, hfl, _⟩
    · rw [hn] at h3; cases h3
    · have hm : (dt, Φ) ∈ fsA [] (ps.take s) := by
        have : (dt, Φ) ∈ fltF l.toArray o (fsA [] (ps.take s)) := by rw [hfl]; exact List.mem_cons_self
        exact (List.mem_filter.1 this).1
      rcases (mem_fsA _ _ _).1 hm with h | ⟨j, hj⟩
      · cases h
      · rw [List.getElem?_take] at hj
        split at hj
        · rename_i hlt; exact ⟨j, Φ, hj, hlt⟩
        · cases hj
  have hdv : ∀ (j : Nat) c, ps[j]? ≠ some (dt, Post.val c) := fun j c hj => by
    have := huniq j js _ _ hj hjs rfl
    subst this
    rw [hjs] at hj; cases hj
  intro fuel
  induction fuel with
  | zero =>
    intro listed a w hsz hcnt hcl hto st
    exact (wpAny_stage_done4 ok hlen hidx hnodup hsT hdv hK hsz (fun i hi => by
      cases hc : listed.getD i true with
      | true => rfl
      | false =>
        exfalso
        have hlt : i < listed.size := by have := ok.ok2.ok.hT; omega
        have : false ∈ listed.toList := by
          simp [hlt] at hc
          rw [← hc]; exact Array.getElem_mem_toList _
        exact absurd hcnt (by have := List.count_pos_iff.2 this; omega)) hto st 0 (by
      have : T = l.length := by
        rcases Nat.lt_or_ge T l.length with h | h
        · exfalso
          have h1 := hto T (Nat.le_refl _) h
          have hlt : T < listed.size := by omega
          have : false ∈ listed.toList := by
            simp [hlt] at h1
            rw [← h1]; exact Array.getElem_mem_toList _
          exact absurd hcnt (by have := List.count_pos_iff.2 this; omega)
        · have := ok.ok2.ok.hT; omega
      omega))
  | succ fuel ih =>
    intro listed a w hsz hcnt hcl hto st
    by_cases hall : ∀ i, i < T → listed.getD i true = true
    · -- the tail begins
      have hf : fuel + 1 + T = l.length := by
        have h1 : ∀ (m : List Bool) (T : Nat), T ≤ m.length → (∀ i, i < T → m[i]? = some true) → (∀ i, T ≤ i → i < m.length → m[i]? = some false) → m.count false + T = m.length := by
          intro m
          induction m with
          | nil => intro T h _ _; simp at h; simp [h]
          | cons x m ihm =>
            intro T hT ht hf
            cases T with
            | zero =>
              have hx : x = false := by have := hf 0 (Nat.le_refl _) (by simp); simpa using this
              have := ihm 0 (Nat.zero_le _) (fun i hi => by omega) (fun i _ hi => by have := hf (i + 1) (by omega) (by simp; omega); simpa using this)
              subst hx
              simp at this ⊢; omega
            | succ T =>
              have hx : x = true := by have := ht 0 (by omega); simpa using this
              have := ihm T (by simpa using hT) (fun i hi => by have := ht (i + 1) (by omega); simpa using this) (fun i hi hil => by have := hf (i + 1) (by omega) (by simp; omega); simpa using this)
              subst hx
              simp at this ⊢; omega
        have := h1 listed.toList T (by have := ok.ok2.ok.hT; simp; omega) (fun i hi => by
          have hlt : i < listed.size := by have := ok.ok2.ok.hT; omega
          have := hall i hi
          simp [hlt] at this ⊢; exact this) (fun i hi hil => by
          have hlt : i < listed.size := by simpa using hil
          have := hto i hi (by omega)
          simp [hlt] at this ⊢; exact this)
        rw [hcnt] at this
        simp at this; omega
      exact wpAny_stage_done4 ok hlen hidx hnodup hsT hdv hK hsz hall hto st _ hf
    · have hnot : ∃ i, i < T ∧ listed.getD i true = false := by
        refine Classical.byContradiction fun hn => hall fun i hi => ?_
        cases hc : listed.getD i true with
        | true => rfl
        | false => exact absurd ⟨i, hi, hc⟩ hn
      refine ⟨fun hnil => ?_, fun i hi => ?_⟩
      · obtain ⟨i, hiT, hc⟩ := hnot
        have := ready_nil hsz ok.ok2.ok.back hnil i (by have := ok.ok2.ok.hT; omega)
        rw [this] at hc; cases hc
      · obtain ⟨hun, ⟨o, ho⟩, hdeps⟩ := ready_deps hi
        have hil : i < l.length := (List.getElem?_eq_some_iff.1 ho).1
        have hiT : i < T := by
          rcases Nat.lt_or_ge i T with h | h
          · exact h
          · exfalso
            obtain ⟨j, hjT, hc⟩ := hnot
            have h3 := ok.ok2.ok.tail i h hil j (by omega)
            have h4 := reach_listed hcl (by simpa using hsz) l.length (depsL l.toArray i) (fun k hk => (getD_true (hdeps k hk)).1) j h3
            rw [h4] at hc; cases hc
        obtain ⟨o', q, ho', hq, hdN, hob⟩ := hpl i hiT
        rw [ho] at ho'
        cases ho'
        -- what it looks at has been written in turn
        have hturn : ∀ t ∈ o.looksAt l.toArray, ∀ (j : Nat) p, ps[j]? = some p → p.1 = t → (j < i ∧ listed.getD j true = true) ∨ (i < j ∧ listed.getD j true = false) := by
          intro t ht j p hp hpt
          obtain ⟨oj, pj, h1, h2, _, h3⟩ := hpl j (hidx j p hp)
          rw [hp] at h2
          cases h2
          have h3 : oj.dst = some p.1 := by
            rcases h3 with ⟨h3, _⟩ | ⟨_, hu3, _⟩
            · exact h3
            · exfalso; rw [← hpt, hu3] at ht; exact (ok.ok2.un i o hiT ho).1 ht
          have hj := ok.ok2.ok.look i j t o oj hiT (hidx j p hp) h1 (by rw [h3, hpt]) ho ht
          rcases hj with hj | hj
          · exact .inl ⟨ok.ok2.ok.back i hil j hj, (getD_true (hdeps j hj)).1⟩
          · have hjl : j < l.length := Nat.lt_of_lt_of_le (hidx j p hp) ok.ok2.ok.hT
            refine .inr ⟨reach_lt ok.ok2.ok.back l.length _ j (fun k hk => ok.ok2.ok.back j hjl k hk) i hj (Nat.le_of_lt hjl), ?_⟩
            cases hlj : listed.getD j true with
            | false => rfl
            | true =>
              have h4 := reach_listed hcl (by simpa using hsz) l.length (depsL l.toArray j) (fun k hk => hcl j (by omega) hlj k hk) i hj
              rw [h4] at hun; cases hun
        -- the facts that it needs
        have hJ : ∀ f ∈ fltF l.toArray o (fsA [] (ps.take i)), ∃ j : Nat, ps[j]? = some (f.1, Post.rel f.2) ∧ listed.getD j true = true := by
          intro f hf
          obtain ⟨h1, h2⟩ := List.mem_filter.1 hf
          rcases (mem_fsA _ _ _).1 h1 with h | ⟨j, hj⟩
          · cases h
          · rw [List.getElem?_take] at hj
            split at hj
            · rename_i hji
              refine ⟨j, hj, ?_⟩
              rcases hturn f.1 (List.contains_iff_mem.1 h2) j _ hj rfl with h | h
              · exact h.2
              · omega
            · cases hj
        have hJn : ((fltF l.toArray o (fsA [] (ps.take i))).map (·.1)).Nodup := by
          have h1 : ((fsA [] (ps.take i)).map (·.1)).Nodup := fsA_nodup _ [] (by
            simp only [List.map_nil, List.nil_append]
            rw [List.map_take]
            exact (List.take_sublist _ _).nodup hnodup)
          exact ((List.filter_sublist (l := fsA [] (ps.take i)) (p := fun q => (o.looksAt l.toArray).contains q.1)).map (fun q : Fact => q.1)).nodup h1
        obtain ⟨hσ, Is, R, X, hIn, hIs, hIR, hperm, hsh, hdone⟩ := st.heap hJn hJ
        have hva : ∀ (j : Nat) p, ps[j]? = some p → listed.getD j true = true → ∃ v, a.tmps[p.1]? = some v ∧ a.tmps.getD p.1 undef = v ∧ okF s dt Ψ listed p v (hσ p.1) := by
          intro j p hp hlj
          obtain ⟨v, h1, h2⟩ := hdone j p hp hlj
          exact ⟨v, h1, by simp [Array.getD_eq_getD_getElem?, h1], h2⟩
        have hfa : ∀ q ∈ fltF l.toArray o (fsA [] (ps.take i)), q.2 (a.tmps.getD q.1 undef) (hσ q.1) := fun f hf => by
          obtain ⟨j, hj, hlj⟩ := hJ f hf
          obtain ⟨v, _, e, hok⟩ := hva j _ hj hlj
          show f.2 (a.tmps.getD f.1 undef) _
          rw [show a.tmps.getD f.1 undef = v from e]
          refine hok.2 (fun hh => ?_)
          by_cases his : i = s
          · subst his
            have := hh.2
            rw [hun] at this; cases this
          · have hl := List.contains_iff_mem.1 (List.mem_filter.1 hf).2
            have e1 : f.1 = dt := hh.1
            rw [e1] at hl
            exact ok.only i o hiT ho his hl
        have hilt : i < listed.size := by omega
        -- what is left over, and what is kept beside: the ends
        obtain ⟨QE, hTL, hQE, hdst⟩ : ∃ QE : Exit → Act → World → Prop, (∀ b w, Fr N D ((List.map (fun f : Fact => (f.1, a.tmps.getD f.1 undef)) (fltF l.toArray o (fsA [] (ps.take i)))) ++ envA L (ps.take i)) b → SH B w0 w ((fltF l.toArray o (fsA [] (ps.take i))).flatMap (fun q => hσ q.1) ++ ((R.flatMap hσ ++ X) ++ H)) → wpListIn (FW r) 0 P l.toArray QE [o] b w) ∧
            (∀ e b w, QE e b w → e = .normal ∧ b.defers = D ∧ ∃ hτ : Nat → Hp, SH B w0 w ((q.1 :: Is).flatMap hτ ++ (X ++ H)) ∧ (∀ (j : Nat) p, ps[j]? = some p → listed.getD j true = true → ∃ v, a.tmps[p.1]? = some v ∧ okF s dt Ψ (listed.setIfInBounds i true) p v (hτ p.1)) ∧
              ((i ≠ s ∧ ∃ v, b.tmps[q.1]? = some v ∧ q.2.ok v (hτ q.1)) ∨ (i = s ∧ hτ q.1 = []))) ∧
            ((i ≠ s ∧ o.dst = some q.1) ∨ (i = s ∧ o.dst = none ∧ q = (u, Post.rel (fun _ h => h = [])))) := by
          have hqI : q.1 ∉ Is := by
            intro hm
            obtain ⟨j, p, hp, hpq, hlj⟩ := (hIs _).1 hm
            have := huniq j i p q hp hq hpq
            subst this
            rw [hlj] at hun; cases hun
          rcases hob with ⟨hd, hob⟩ | ⟨hd, hu, Φ, hfl, hob⟩
          · have hne : i ≠ s := fun e => by
              have := (ok.ok2.st i o hiT ho).2 e
              rw [this] at hd; cases hd
            have hls : (listed.setIfInBounds i true).getD s true = listed.getD s true := by rw [set_getD, if_neg hne]
            refine ⟨_, fun b w hb hw => AllF_inst (fun k => a.tmps.getD k undef) hσ _ _ hob hfa (R.flatMap hσ ++ X) b w hb hw, fun e b w ⟨h1, h2, v, h, h3, h4, h5⟩ => ⟨h1, h2, fun d => if d = q.1 then h else hσ d, h5.perm ?_, fun j p hp hlj => ?_, .inl ⟨hne, v, h3, by simpa using h4⟩⟩, .inl ⟨hne, hd⟩⟩
            · rw [List.flatMap_cons, if_pos rfl, flatMap_congr' (g := hσ) (fun d hd => by
                have hne : d ≠ q.1 := by rintro rfl; exact hqI hd
                rw [if_neg hne])]
              have := (hperm.append_right (X ++ H))
              rw [List.append_assoc]
              refine List.Perm.append_left h ?_
              simpa [List.append_assoc] using this
            · obtain ⟨v, h6, h7⟩ := hdone j p hp hlj
              have hne' : p.1 ≠ q.1 := fun e' => by
                have := huniq j i p q hp hq e'
                subst this
                rw [hlj] at hun; cases hun
              refine ⟨v, h6, ?_⟩
              simp only [if_neg hne']
              unfold okF at h7 ⊢
              rw [hls]; exact h7
          · have es : i = s := (ok.ok2.st i o hiT ho).1 hd
            subst es
            have hlu : (listed.setIfInBounds i true).getD i true = true := by rw [set_getD, if_pos rfl]
            have hJ1 : ∃ j : Nat, ps[j]? = some (dt, Post.rel Φ) ∧ listed.getD j true = true := hJ (dt, Φ) (by rw [hfl]; exact List.mem_cons_self)
            obtain ⟨j1, hj1, hlj1⟩ := hJ1
            obtain ⟨v1, hv1, e1, hok1⟩ := hva j1 _ hj1 hlj1
            have e1' : a.tmps.getD dt undef = v1 := e1
            have hΦ : Φ v1 (hσ dt) := hok1.2 (fun hh => by have := hh.2; rw [hun] at this; cases this)
            have hw1 := hob v1 (hσ dt) hΦ (R.flatMap hσ ++ X)
            have hdtI : dt ∈ Is := (hIs _).2 ⟨j1, _, hj1, rfl, hlj1⟩
            have hqu : q.1 = u := by rw [hu]
            have hudt : u ≠ dt := fun h => hqI (by rw [hqu, h]; exact hdtI)
            have hdtR : dt ∉ R := by
              have hnd : ((fltF l.toArray o (fsA [] (ps.take i))).map (·.1) ++ R).Nodup := (hIR.nodup_iff).1 hIn
              rw [hfl] at hnd
              simp only [List.map_cons, List.map_nil, List.cons_append, List.nil_append, List.nodup_cons] at hnd
              exact hnd.1
            refine ⟨bodyQ4 N D B w0 (Ψ v1) ((R.flatMap hσ ++ X) ++ H), fun b w hb hw => ?_, fun e b w ⟨h1, hz, h2, h', h3, h4⟩ => ⟨h1, h2, fun d => if d = u then [] else if d = dt then h' else hσ d, h4.perm ?_, fun j p hp hlj => ?_, .inr ⟨rfl, by rw [hqu]; exact if_pos rfl⟩⟩, .inr ⟨rfl, hd, hu⟩⟩
            · rw [hfl] at hb hw
              simp only [List.map_cons, List.map_nil, List.cons_append, List.nil_append, List.flatMap_cons, List.flatMap_nil, List.append_nil] at hb hw
              rw [e1'] at hb
              exact hw1 b w hb hw
            · have hI2 : (Is.flatMap (fun d => if d = u then [] else if d = dt then h' else hσ d)).Perm (h' ++ R.flatMap hσ) := by
                have p1 := hIR.flatMap_right (fun d => if d = u then ([] : Hp) else if d = dt then h' else hσ d)
                rw [hfl] at p1
                simp only [List.map_cons, List.map_nil, List.cons_append, List.nil_append, List.flatMap_cons] at p1
                have q1 : (if dt = u then ([] : Hp) else if True then h' else hσ dt) = h' := by rw [if_neg (Ne.symm hudt), if_pos trivial]
                have q2 : R.flatMap (fun d => if d = u then ([] : Hp) else if d = dt then h' else hσ d) = R.flatMap hσ := by
                  refine flatMap_congr' (fun d hd => ?_)
                  have hdI : d ∈ Is := (hIR.mem_iff).2 (List.mem_append_right _ hd)
                  rw [if_neg (fun h => hqI (by rw [hqu, ← h]; exact hdI)), if_neg (fun h => hdtR (by rw [← h]; exact hd))]
                rw [q2] at p1
                rw [q1] at p1
                exact p1
              have q3 : (if u = u then ([] : Hp) else if u = dt then h' else hσ u) = [] := if_pos rfl
              rw [hqu, List.flatMap_cons, q3, List.nil_append]
              have := hI2.append_right (X ++ H)
              simpa [List.append_assoc] using this
            · obtain ⟨v, h6, h7⟩ := hdone j p hp hlj
              have hpu : p.1 ≠ u := fun e' => by
                have := huniq j i p q hp hq (by rw [e', hqu])
                subst this
                rw [hlj] at hun; cases hun
              refine ⟨v, h6, ?_⟩
              simp only [if_neg hpu]
              by_cases hpd : p.1 = dt
              · simp only [if_pos hpd]
                have : v = v1 := by
                  rw [hpd] at h6
                  have hv1' : a.tmps[dt]? = some v1 := hv1
                  rw [hv1'] at h6; cases h6; rfl
                subst this
                exact ⟨fun _ => h3, fun hh => absurd ⟨hpd, hlu⟩ hh⟩
              · simp only [if_neg hpd]
                exact ⟨fun hh => absurd hh.1 hpd, fun _ => h7.2 (fun hh => hpd hh.1)⟩
        -- the frame of its own walk
        obtain ⟨EE, hEE⟩ : ∃ EE, EE = (List.map (fun f : Fact => (f.1, a.tmps.getD f.1 undef)) (fltF l.toArray o (fsA [] (ps.take i)))) ++ envA L (ps.take i) := ⟨_, rfl⟩
        rw [← hEE] at hTL
        have hkN : ∀ k v, lk EE k = some v → k < N := by
          intro k v h
          rw [hEE, lk_append] at h
          cases hl : lk (List.map (fun f : Fact => (f.1, a.tmps.getD f.1 undef)) (fltF l.toArray o (fsA [] (ps.take i)))) k with
          | some u =>
            obtain ⟨_, f, hf, rfl⟩ := lk_map_some (va := fun k => a.tmps.getD k undef) hl
            obtain ⟨j, hj, _⟩ := hJ f hf
            obtain ⟨_, p, _, h2, h4, _⟩ := hpl j (hidx j _ hj)
            rw [hj] at h2; cases h2; exact h4
          | none =>
            rw [hl] at h
            rcases lk_envA _ _ _ _ h with ⟨j, c, h1, _⟩ | ⟨h1, _⟩
            · rw [List.getElem?_take] at h1
              split at h1
              · obtain ⟨_, p, _, h2, h4, _⟩ := hpl j (hidx j _ h1)
                rw [h1] at h2; cases h2; exact h4
              · cases h1
            · exact hLN k v h1
        let b : Act := { tmps := Array.ofFn (n := N) (fun k => match lk EE k with | some v => v | none => a.tmps.getD k undef), defers := a.defers }
        have hbget : ∀ k, k < N → b.tmps[k]? = some (match lk EE k with | some v => v | none => a.tmps.getD k undef) := by
          intro k hk
          simp [b, hk]
        have hFr : Fr N D EE b := ⟨by simp [b], st.defers, fun k v hk => by rw [hbget k (hkN k v hk), hk]⟩
        have hagree : ∀ t ∈ o.looksAt l.toArray, b.tmps.getD t undef = a.tmps.getD t undef := by
          intro t ht
          rcases Nat.lt_or_ge t N with htN | htN
          · rw [Array.getD_eq_getD_getElem?, hbget t htN]
            cases hl : lk EE t with
            | none => rfl
            | some v =>
              have := st.lookup hdv (i := i) (J := fltF l.toArray o (fsA [] (ps.take i))) (t := t) (v := v) (hturn t ht) hJ
                (fun f hf hft => List.mem_filter.2 ⟨hf, List.contains_iff_mem.2 (hft ▸ ht)⟩) (by rw [hEE] at hl; exact hl)
              simp [this]
          · have h1 : b.tmps[t]? = none := by simp [b]; exact htN
            have h2 : a.tmps[t]? = none := by simp [st.size]; exact htN
            simp [Array.getD_eq_getD_getElem?, h1, h2]
        have hw0 := hTL b w hFr hsh
        -- what comes of it
        have hread : ∀ (v : Value) (w' : World), wpListIn (FW r) 0 P l.toArray QE [] (b.put o.dst v) w' →
            wpAnyIn (FW r) 0 P .any l.toArray Q fuel (listed.setIfInBounds i true) (a.put o.dst v) w' := by
          intro v w' hq0
          obtain ⟨_, _, hτ, hsh', hdone', hlast⟩ := hQE _ _ _ hq0
          have hsz' : b.tmps.size = N := by simp [b]
          have hq1 : ∀ t, t ≠ q.1 → (a.put o.dst v).tmps[t]? = a.tmps[t]? := by
            intro t ht
            rcases hdst with ⟨_, hdst⟩ | ⟨_, hdst, _⟩ <;> rw [hdst]
            · simp [Act.put, Array.getElem?_setIfInBounds_ne (Ne.symm ht)]
            · rfl
          have hasz : (a.put o.dst v).tmps.size = N := by
            rcases hdst with ⟨_, hdst⟩ | ⟨_, hdst, _⟩ <;> rw [hdst]
            · simp [Act.put, st.size]
            · exact st.size
          have hadf : (a.put o.dst v).defers = D := by
            rcases hdst with ⟨_, hdst⟩ | ⟨_, hdst, _⟩ <;> rw [hdst] <;> exact st.defers
          have hqI : q.1 ∉ Is := by
            intro hm
            obtain ⟨j, p, hp, hpq, hlj⟩ := (hIs _).1 hm
            have := huniq j i p q hp hq hpq
            subst this
            rw [hlj] at hun; cases hun
          refine ih _ _ _ (by simpa using hsz) ?_ (hcl.set fun k hk => (getD_true (hdeps k hk)).1) (fun j hj hjl => ?_) ?_
          · have e : (listed.setIfInBounds i true).toList = listed.toList.set i true := by simp
            rw [e, List.count_set (by simpa using hilt)]
            have : listed.toList[i]'(by simpa using hilt) = false := by simp [hilt] at hun; simpa using hun
            simp [this, hcnt]
          · rw [set_getD, if_neg (by omega)]; exact hto j hj hjl
          · refine ⟨hasz, hadf, fun t u ht hno => ?_, hτ, q.1 :: Is, X, List.nodup_cons.2 ⟨hqI, hIn⟩, fun d => ?_, hsh', fun j p hp hlj => ?_⟩
            · have hne : t ≠ q.1 := by
                rintro rfl
                have := hno i q hq rfl
                rw [set_getD, if_pos rfl] at this
                cases this
              rw [hq1 t hne]
              refine st.base t u ht (fun j p hp hpt => ?_)
              have := hno j p hp hpt
              rw [set_getD] at this
              split at this
              · cases this
              · exact this
            · rw [List.mem_cons, hIs]
              constructor
              · rintro (rfl | ⟨j, p, hp, hpd, hlj⟩)
                · exact ⟨i, q, hq, rfl, by rw [set_getD, if_pos rfl]⟩
                · refine ⟨j, p, hp, hpd, ?_⟩
                  rw [set_getD]; split
                  · rfl
                  · exact hlj
              · rintro ⟨j, p, hp, hpd, hlj⟩
                by_cases e : i = j
                · subst e
                  rw [hq] at hp; cases hp
                  exact .inl hpd.symm
                · rw [set_getD, if_neg e] at hlj
                  exact .inr ⟨j, p, hp, hpd, hlj⟩
            · by_cases e : i = j
              · subst e
                rw [hq] at hp; cases hp
                rcases hlast with ⟨hne, v', h1, h2⟩ | ⟨hes, h1⟩
                · rcases hdst with ⟨_, hdst⟩ | ⟨hes, _⟩
                  · have : v' = v := by
                      rw [hdst] at h1
                      simp [Act.put, hsz', hdN] at h1
                      exact h1.symm
                    subst this
                    refine ⟨v', by rw [hdst]; simp [Act.put, st.size, hdN], fun hh => ?_, fun _ => h2⟩
                    exfalso
                    -- the variable is laid ahead of the store
                    have hij : i = js := huniq i js _ _ hq hjs hh.1
                    have hls : listed.getD s true = true := by
                      have := hh.2
                      rw [set_getD, if_neg hne] at this; exact this
                    obtain ⟨os, qs, g1, g2, _, g3⟩ := hpl s hsT
                    have gn := (ok.ok2.st s os hsT g1).2 rfl
                    rcases g3 with ⟨g3, _⟩ | ⟨_, _, Φ', gf, _⟩
                    · rw [gn] at g3; cases g3
                    · have glk : dt ∈ os.looksAt l.toArray := by
                        have : (dt, Φ') ∈ fltF l.toArray os (fsA [] (ps.take s)) := by rw [gf]; exact List.mem_cons_self
                        exact List.contains_iff_mem.1 (List.mem_filter.1 this).2
                      have hjl := ok.ok2.ok.look s i dt os o hsT hiT ho (by rw [hdst]; exact congrArg some hh.1) g1 glk
                      have hsl : s < l.length := Nat.lt_of_lt_of_le hsT ok.ok2.ok.hT
                      rcases hjl with hjl | hjl
                      · have := hcl s (by omega) hls i hjl
                        rw [this] at hun; cases hun
                      · have := reach_lt ok.ok2.ok.back l.length _ i (fun k hk => ok.ok2.ok.back i hil k hk) s hjl (Nat.le_of_lt hil)
                        omega
                  · exact absurd hes hne
                · rcases hdst with ⟨hne, _⟩ | ⟨_, hdst, hqe⟩
                  · exact absurd hes hne
                  · have hlt : q.1 < a.tmps.size := by rw [st.size]; exact hdN
                    have hqd : q.1 ≠ dt := fun h => by
                      have := huniq i js q _ hq hjs h
                      omega
                    refine ⟨a.tmps[q.1], by rw [hdst]; exact Array.getElem?_eq_getElem hlt, fun hh => absurd hh.1 hqd, fun _ => ?_⟩
                    have hq2 : q.2 = Post.rel (fun _ h => h = []) := by rw [hqe]
                    rw [h1, hq2]; rfl
              · rw [set_getD, if_neg e] at hlj
                obtain ⟨v2, h1, h2⟩ := hdone' j p hp hlj
                have hne : p.1 ≠ q.1 := fun e' => e (huniq i j q p hq hp e'.symm)
                exact ⟨v2, by rw [hq1 _ hne]; exact h1, h2⟩
        have hplain := ok.ok2.ok.plain o (List.mem_of_getElem? ho)
        have hnd : ∀ c, o.op ≠ .defer c := fun c e => by rw [e] at hplain; cases hplain
        have hns : ∀ cs bb, o.op ≠ .select cs bb := fun c bb e => by rw [e] at hplain; cases hplain
        have hexec : execOp b.eval o = execOp a.eval o := execOp_congr o hns (eval_congr hagree)
        unfold wpOpIn
        simp only [List.getElem?_toArray, ho]
        unfold wpListIn at hw0
        rw [wanted_congr hagree] at hw0
        split
        · rename_i hwant
          rw [if_pos hwant] at hw0
          refine ⟨fun _ _ => trivial, ?_⟩
          have h2 := hw0.2
          rw [semAt_any hnd, hexec] at h2
          rw [semAt_any hnd]
          generalize (execOp a.eval o).run P w = res at *
          cases res with
          | ok x w' =>
            cases x <;> simp only [Oper.uponIn] at h2 ⊢
            case value v => exact hread v w' h2
            case skip => exact hread _ w' h2
            case enter f args =>
              refine ⟨h2.1, CallsIn.mono h2.2 fun e w'' he => ?_⟩
              cases e with
              | returned v => exact hread v w'' he
              | panicked ch => cases (hQE _ _ _ he).1
              | outgrown => obtain ⟨_, _, he⟩ := he; cases (hQE _ _ _ he).1
            case row row args => exact ⟨h2.1, RowsIn.mono h2.2 fun v w'' he => hread v w'' he⟩
            case round lp f tm asg bd =>
              refine ⟨h2.1, RoundIn.mono h2.2 fun e w'' he => ?_⟩
              cases e with
              | returned v => exact hread v w'' he
              | panicked ch => cases (hQE _ _ _ he).1
              | outgrown => obtain ⟨_, _, he⟩ := he; cases (hQE _ _ _ he).1
            case defer dd =>
              exfalso
              have h3 : dd :: b.defers = D := by
                have := (hQE _ _ _ h2).2.1
                rcases hdst with ⟨_, hdst⟩ | ⟨_, hdst, _⟩ <;> rw [hdst] at this <;> exact this
              have h4 : b.defers = D := hFr.defers
              rw [h4] at h3
              have := congrArg List.length h3
              simp at this
          | halt x w' =>
            cases x <;> simp only [Oper.uponIn] at h2 ⊢
            case panic v => cases (hQE _ _ _ h2).1
        · rename_i hwant
          rw [if_neg hwant] at hw0
          exact ⟨fun _ _ => trivial, hread _ _ hw0.2⟩



/-- **A region that draws its order, in which a variable is laid and one store into it floats**: nothing else ahead of the tail looks at it. -/
theorem TC_draw4 {id : Nat} {l : List Oper} (T s u dt : Nat) (Ψ : Value → Hp → Prop) {ps : List (Nat × Post)} (hc : drawOk4 l T s u dt = true) (hsT : Nat.blt s T = true) (hm : P.follows .mixedOrders = true) (hPG : PG4 r P N D B w0 H u dt Ψ l.toArray (l.take T) L [] ps)
    (hK : AllF (fsB dt Ψ (fsA [] ps)) fun EF G => TL r P Q N D B w0 (EF ++ envA L ps) (G ++ H) l.toArray (l.drop T)) : TC r P Q N D B w0 L H (.region id l.toArray true) := by
  intro a w hf hs
  have ok := drawOk4_spec hc
  obtain ⟨hlen, hps⟩ := PG4_spec hPG
  have hT : T = ps.length := by rw [← hlen, List.length_take]; have := ok.ok2.ok.hT; omega
  have hsT : s < T := by simpa using hsT
  refine wpIn_region_any hm ?_
  have hrep : ∀ i, i < l.length → (Array.replicate l.toArray.size false).getD i true = false := fun i hi => by simp [hi]
  refine wpAny_stage4 (s := s) (u := u) (dt := dt) (Ψ := Ψ) ok (fun k v h => ?_) hT hsT hps hK _ _ a _ (by simp) (by simp) ?_ (fun i _ hi => by simpa using hrep i hi) ⟨hf.size, hf.defers, fun t v h _ => hf.get t v h, fun _ => [], [], [], List.nodup_nil, fun d => ?_, hs.drew, fun j q hj hl => ?_⟩
  · have := (Array.getElem?_eq_some_iff.1 (hf.get k v h)).1
    rw [hf.size] at this; exact this
  · intro i hi hli
    exfalso
    have h1 : i < l.length := by simpa using hi
    rw [hrep i h1] at hli; cases hli
  · constructor
    · intro h; cases h
    · rintro ⟨j, q, hj, _, hl⟩
      exfalso
      have h1 : j < l.length := by have := (List.getElem?_eq_some_iff.1 hj).1; have := ok.ok2.ok.hT; omega
      rw [hrep j h1] at hl; cases hl
  · exfalso
    have h1 : j < l.length := by have := (List.getElem?_eq_some_iff.1 hj).1; have := ok.ok2.ok.hT; omega
    rw [hrep j h1] at hl; cases hl
theorem pv4 {o : Oper} {E : Env} {Fs : List Fact} {d : Nat} {c : Value} {ps : List (Nat × Post)} (k : PG4 r P N D B w0 H u dt Ψ ops rest ((d, c) :: E) Fs ps) (h1 : o.dst = some d := by exact rfl) (h2 : Nat.blt d N = true := by exact rfl)
    (h3 : AllF (fltF ops o Fs) (fun EF G => ∀ X : Hp, TL r P (QV D B w0 d c (G ++ (X ++ H))) N D B w0 (EF ++ E) (G ++ (X ++ H)) ops [o]) := by
      intro _X
      refine r1 ?_
      apply TL_nil
      exact TQ_QV rfl (fun _ h => h)) : PG4 r P N D B w0 H u dt Ψ ops (o :: rest) E Fs ((d, .val c) :: ps) := PG4.val h1 h2 h3 k
theorem pn4 {E : Env} {Fs : List Fact} {d : Nat} {ty : TypeId} {pos : String} {aft : Array Edge} {ps : List (Nat × Post)} {t : TypeId} {sz : Nat} {ag : Bool} {z : List Value} [ht : TyP P t sz ag z]
    (k : PG4 r P N D B w0 H u dt Ψ ops rest E ((d, isNew B z t) :: Fs) ps) (hd : Nat.blt d N = true := by exact rfl) :
    PG4 r P N D B w0 H u dt Ψ ops (⟨some d, .alloc t, ty, pos, aft, none⟩ :: rest) E Fs ((d, .rel (isNew B z t)) :: ps) :=
  PG4.rel _ rfl hd (AllF.all _ _ fun E' G X => TL_alloc hd fun b hb => TL_nil (TQ_QR (h := [(b, .cells z t)]) (v := .pointer (some ⟨b, 0, none⟩)) (lk_cons_same _ _ _) ⟨b, hb, rfl, rfl⟩ (fun _ h => h))) k
theorem TQ_Q4 {Ψ' : Hp → Prop} {H1 H' h' : Hp} (hp : Ψ' h') (hH : ∀ w, SH B w0 w H1 → SH B w0 w (h' ++ H')) : TQ (bodyQ4 N D B w0 Ψ' H') N D B w0 L H1 .normal := fun _ _ hf hs => ⟨rfl, hf.size, hf.defers, h', hp, hH _ hs⟩
end
end Go.Eng
