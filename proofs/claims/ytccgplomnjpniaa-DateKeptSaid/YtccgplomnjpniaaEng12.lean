/- The engine, part 12: drawn regions in which one store floats: it may come ahead of operations that do not look at what it turns. -/
import Derived.Test.YtccgplomnjpniaaEng11
namespace Go.Eng
open Go Go.RowKit

/-- An end that names the heap alone. -/
def bodyQD (N : Nat) (D : List Deferred) (B : Nat) (w0 : World) (H' : Hp) : Exit → Act → World → Prop := fun e a w => e = .normal ∧ a.tmps.size = N ∧ a.defers = D ∧ SH B w0 w H'

def dropAt : Nat → Hp → Hp
  | _, [] => []
  | 0, _ :: H => H
  | n + 1, x :: H => x :: dropAt n H
def atN : Nat → Hp → Option (Nat × Blk)
  | _, [] => none
  | 0, x :: _ => some x
  | n + 1, _ :: H => atN n H
theorem dropAt_perm : ∀ (n : Nat) (H : Hp) (x : Nat × Blk), atN n H = some x → (x :: dropAt n H).Perm H := by
  intro n
  induction n with
  | zero => intro H x h; cases H with
    | nil => cases h
    | cons y H => cases h; exact List.Perm.refl _
  | succ n ih => intro H x h; cases H with
    | nil => cases h
    | cons y H => exact (List.Perm.swap y x _).trans ((ih H x h).cons y)

/-- The check: as 'drawOk', where operation s has no slot; u is a slot that nothing here looks at or writes. -/
def drawOk2 (l : List Oper) (T s u : Nat) : Bool :=
  drawOk l T && ((l.take T).all fun o => !(o.looksAt l.toArray).contains u && !(o.dst == some u)) &&
  ((List.range T).all fun i => match l[i]? with | some o => Nat.beq i s == o.dst.isNone | none => true)
structure DrawOK2 (l : List Oper) (T s u : Nat) : Prop where
  ok : DrawOK l T
  un : ∀ (i : Nat) o, i < T → l[i]? = some o → u ∉ o.looksAt l.toArray ∧ o.dst ≠ some u
  st : ∀ (i : Nat) o, i < T → l[i]? = some o → (o.dst = none ↔ i = s)
theorem drawOk2_spec {l : List Oper} {T s u : Nat} (h : drawOk2 l T s u = true) : DrawOK2 l T s u := by
  simp only [drawOk2, Bool.and_eq_true] at h
  obtain ⟨⟨h1, h2⟩, h3⟩ := h
  refine ⟨drawOk_spec h1, fun i o hi ho => ?_, fun i o hi ho => ?_⟩
  · have hm : o ∈ l.take T := List.mem_of_getElem? (by rw [List.getElem?_take, if_pos hi]; exact ho)
    have := List.all_eq_true.1 h2 o hm
    simp only [Bool.and_eq_true, Bool.not_eq_true', beq_eq_false_iff_ne] at this
    refine ⟨fun hc => ?_, this.2⟩
    have h4 := List.contains_iff_mem.2 hc
    rw [this.1] at h4; cases h4
  · have := List.all_eq_true.1 h3 i (List.mem_range.2 hi)
    simp only [ho, beq_iff_eq] at this
    constructor
    · intro e
      rw [e] at this
      exact Nat.eq_of_beq_eq_true this
    · intro e
      have h5 : Nat.beq i s = true := by rw [e]; exact Nat.beq_refl _
      rw [h5] at this
      exact Option.isNone_iff_eq_none.1 this.symm

section
variable (r : Option Nat) (P : Program) (N : Nat) (D : List Deferred) (B : Nat) (w0 : World) (H : Hp) (cb : Hp) (u : Nat) (ops : Array Oper)
def ObS (o : Oper) (q : Nat × Post) (E : Env) (Fs : List Fact) : Prop :=
  AllF (fltF ops o Fs) fun EF G => ∀ X : Hp, TL r P (QR D B w0 q.1 q.2.ok (G ++ (X ++ H))) N D B w0 (EF ++ E) (G ++ (X ++ (cb ++ H))) ops [o]
inductive PG2 : List Oper → Env → List Fact → List (Nat × Post) → Prop
  | nil {E Fs} : PG2 [] E Fs []
  | val {o rest E Fs d c ps} : o.dst = some d → Nat.blt d N = true → (AllF (fltF ops o Fs) fun EF G => ∀ X : Hp, TL r P (QV D B w0 d c (G ++ (X ++ H))) N D B w0 (EF ++ E) (G ++ (X ++ H)) ops [o]) →
      PG2 rest ((d, c) :: E) Fs ps → PG2 (o :: rest) E Fs ((d, .val c) :: ps)
  | rel {o rest E Fs d ps} (Φ : Value → Hp → Prop) : o.dst = some d → Nat.blt d N = true → (AllF (fltF ops o Fs) fun EF G => ∀ X : Hp, TL r P (QR D B w0 d Φ (G ++ (X ++ H))) N D B w0 (EF ++ E) (G ++ (X ++ H)) ops [o]) →
      PG2 rest E ((d, Φ) :: Fs) ps → PG2 (o :: rest) E Fs ((d, .rel Φ) :: ps)
  | sto {o rest E Fs ps} (k' : Hp) : o.dst = none → Nat.blt u N = true → (AllF (fltF ops o Fs) fun EF G => ∀ X : Hp, TL r P (bodyQD N D B w0 (G ++ (X ++ (k' ++ H)))) N D B w0 (EF ++ E) (G ++ (X ++ (cb ++ H))) ops [o]) →
      PG2 rest E ((u, fun _ h => h = k') :: Fs) ps → PG2 (o :: rest) E Fs ((u, .rel (fun _ h => h = k')) :: ps)
end
section
variable {r : Option Nat} {P : Program} {Q : Exit → Act → World → Prop} {N : Nat} {D : List Deferred} {B : Nat} {w0 : World} {L : Env} {H : Hp} {ops : Array Oper} {rest : List Oper} {cb : Hp} {s u : Nat}

theorem PG2_spec {l : List Oper} {E : Env} {Fs : List Fact} {ps : List (Nat × Post)} (h : PG2 r P N D B w0 H cb u ops l E Fs ps) :
    l.length = ps.length ∧ ∀ (i : Nat) o, l[i]? = some o → ∃ q, ps[i]? = some q ∧ q.1 < N ∧ ((o.dst = some q.1 ∧ ObR r P N D B w0 H ops o q (envA E (ps.take i)) (fsA Fs (ps.take i))) ∨ (o.dst = none ∧ q.1 = u ∧ (∃ k', q.2 = Post.rel (fun _ h => h = k')) ∧ ObS r P N D B w0 H cb ops o q (envA E (ps.take i)) (fsA Fs (ps.take i)))) := by
  induction h with
  | nil => exact ⟨rfl, fun i o h => by simp at h⟩
  | val hd hN hob _ ih =>
    refine ⟨by simp [ih.1], fun i o h => ?_⟩
    cases i with
    | zero =>
      simp at h; subst h
      refine ⟨_, rfl, by simpa using hN, .inl ⟨hd, ?_⟩⟩
      exact AllF.mono (fun EF G hh X => (hh X).mono_Q (fun e a w ⟨h1, h0, h2, h3⟩ => ⟨h1, h0, _, [], h2, ⟨rfl, rfl⟩, h3⟩)) hob
    | succ i =>
      obtain ⟨q, h1, h2⟩ := ih.2 i o (by simpa using h)
      exact ⟨q, by simpa using h1, h2⟩
  | rel Φ hd hN hob _ ih =>
    refine ⟨by simp [ih.1], fun i o h => ?_⟩
    cases i with
    | zero =>
      simp at h; subst h
      exact ⟨_, rfl, by simpa using hN, .inl ⟨hd, hob⟩⟩
    | succ i =>
      obtain ⟨q, h1, h2⟩ := ih.2 i o (by simpa using h)
      exact ⟨q, by simpa using h1, h2⟩
  | sto k' hd hN hob _ ih =>
    rename_i o0 rest0 E0 Fs0 ps0
    refine ⟨by simp [ih.1], fun i o h => ?_⟩
    cases i with
    | zero =>
      simp at h; subst h
      refine ⟨_, rfl, by simpa using hN, .inr ⟨hd, rfl, ⟨k', rfl⟩, ?_⟩⟩
      refine AllF.mono (fun EF G hh X => ?_) hob
      have hu : u < N := by simpa using hN
      refine (hh X).mono_Q (fun e a w ⟨h1, hz, h0, h3⟩ => ⟨h1, h0, a.tmps[u]'(by omega), k', by rw [Array.getElem?_eq_getElem], rfl, h3.perm ?_⟩)
      have e1 : (k' ++ (G ++ X)).Perm ((G ++ X) ++ k') := List.perm_append_comm
      have e2 := e1.append_right H
      simpa [List.append_assoc] using e2
    | succ i =>
      obtain ⟨q, h1, h2⟩ := ih.2 i o (by simpa using h)
      exact ⟨q, by simpa using h1, h2⟩
def pd (s : Nat) (cb : Hp) (listed : Array Bool) : Hp := if listed.getD s true = true then [] else cb
structure Stage2 (l : List Oper) (T : Nat) (ps : List (Nat × Post)) (N : Nat) (D : List Deferred) (B : Nat) (w0 : World) (L : Env) (H : Hp) (s : Nat) (cb : Hp) (listed : Array Bool) (a : Act) (w : World) : Prop where
  size : a.tmps.size = N
  defers : a.defers = D
  base : ∀ t v, lk L t = some v → (∀ (j : Nat) q, ps[j]? = some q → q.1 = t → listed.getD j true = false) → a.tmps[t]? = some v
  done : ∃ (hσ : Nat → Hp) (Is : List Nat) (X : Hp), Is.Nodup ∧ (∀ d, d ∈ Is ↔ ∃ (j : Nat) (q : Nat × Post), ps[j]? = some q ∧ q.1 = d ∧ listed.getD j true = true) ∧
    SH B w0 w (Is.flatMap hσ ++ (X ++ (pd s cb listed ++ H))) ∧ ∀ (j : Nat) q, ps[j]? = some q → listed.getD j true = true → ∃ v, a.tmps[q.1]? = some v ∧ q.2.ok v (hσ q.1)

/-- In a stage, the environment of an operation's own walk holds, as far as the slot is not written out of turn. -/
theorem Stage2.lookup {l : List Oper} {T : Nat} {ps : List (Nat × Post)} {listed : Array Bool} {a : Act} {w : World} (st : Stage2 l T ps N D B w0 L H s cb listed a w) {i : Nat} {J : List Fact} {t : Nat} {v : Value}
    (hturn : ∀ (j : Nat) q, ps[j]? = some q → q.1 = t → (j < i ∧ listed.getD j true = true) ∨ (i < j ∧ listed.getD j true = false)) (hJ : ∀ q ∈ J, ∃ j : Nat, ps[j]? = some (q.1, Post.rel q.2) ∧ listed.getD j true = true)
    (hJt : ∀ q ∈ fsA [] (ps.take i), q.1 = t → q ∈ J)
    (h : lk ((J.map fun q => (q.1, a.tmps.getD q.1 undef)) ++ envA L (ps.take i)) t = some v) : a.tmps[t]? = some v := by
  obtain ⟨hσ, Is, X, _, _, _, hdone⟩ := st.done
  rw [lk_append] at h
  cases hl : lk (J.map fun q => (q.1, a.tmps.getD q.1 undef)) t with
  | some u =>
    rw [hl] at h
    cases h
    obtain ⟨h1, q, hq, h2⟩ := lk_map_some (va := fun k => a.tmps.getD k undef) hl
    subst h2
    obtain ⟨j, hj, hlj⟩ := hJ q hq
    obtain ⟨v', hv', _⟩ := hdone j _ hj hlj
    rw [h1]
    simp only at hv'
    simp [Array.getD_eq_getD_getElem?, hv']
  | none =>
    rw [hl] at h
    rcases lk_envA _ _ _ _ h with ⟨j, c, h1, h2⟩ | ⟨h1, h2⟩
    · subst h2
      rw [List.getElem?_take] at h1
      split at h1
      · rename_i hji
        have hlj : listed.getD j true = true := by
          rcases hturn j _ h1 rfl with h | h
          · exact h.2
          · omega
        obtain ⟨v', hv', hv2, _⟩ := hdone j _ h1 hlj
        rw [hv2] at hv'; exact hv'
      · cases h1
    · refine st.base t v h1 (fun j q hj hq => ?_)
      rcases hturn j q hj hq with ⟨hji, hlj⟩ | h
      rotate_left
      · exact h.2
      exfalso
      subst hq
      obtain ⟨d, p⟩ := q
      have ht : (ps.take i)[j]? = some (d, p) := by rw [List.getElem?_take, if_pos hji]; exact hj
      cases p with
      | val c => exact h2 j c ht
      | rel Φ =>
        have hm := hJt (d, Φ) ((mem_fsA _ _ _).2 (.inr ⟨j, ht⟩)) rfl
        exact lk_map_none (va := fun k => a.tmps.getD k undef) hl _ hm rfl

theorem Stage2.heap {l : List Oper} {T : Nat} {ps : List (Nat × Post)} {listed : Array Bool} {a : Act} {w : World} (st : Stage2 l T ps N D B w0 L H s cb listed a w) {J : List Fact} (hJn : (J.map (·.1)).Nodup)
    (hJ : ∀ q ∈ J, ∃ j : Nat, ps[j]? = some (q.1, Post.rel q.2) ∧ listed.getD j true = true) :
    ∃ (hσ : Nat → Hp) (Is R : List Nat) (X : Hp), Is.Nodup ∧ (∀ d, d ∈ Is ↔ ∃ (j : Nat) (q : Nat × Post), ps[j]? = some q ∧ q.1 = d ∧ listed.getD j true = true) ∧ (Is.flatMap hσ).Perm ((J.flatMap fun q => hσ q.1) ++ R.flatMap hσ) ∧
      SH B w0 w ((J.flatMap fun q => hσ q.1) ++ ((R.flatMap hσ ++ X) ++ (pd s cb listed ++ H))) ∧ (∀ (j : Nat) q, ps[j]? = some q → listed.getD j true = true → ∃ v, a.tmps[q.1]? = some v ∧ q.2.ok v (hσ q.1)) := by
  obtain ⟨hσ, Is, X, h1, h2, h3, h4⟩ := st.done
  obtain ⟨R, hR⟩ := perm_pick h1 hJn (fun d hd => by
    obtain ⟨q, hq, rfl⟩ := List.mem_map.1 hd
    obtain ⟨j, hj, hlj⟩ := hJ q hq
    exact (h2 _).2 ⟨j, _, hj, rfl, hlj⟩)
  have hp : (Is.flatMap hσ).Perm ((J.flatMap fun q => hσ q.1) ++ R.flatMap hσ) := by
    have := hR.flatMap_right hσ
    rw [List.flatMap_append, List.flatMap_map] at this
    exact this
  refine ⟨hσ, Is, R, X, h1, h2, hp, h3.perm ?_, h4⟩
  have := (hp.append_right (X ++ (pd s cb listed ++ H))).symm
  simpa [List.append_assoc] using this

/-- All ahead of the tail is done. -/
theorem wpAny_stage_done2 {l : List Oper} {T : Nat} {ps : List (Nat × Post)} (ok : DrawOK2 l T s u) (hlen : T = ps.length)
    (hidx : ∀ (i : Nat) q, ps[i]? = some q → i < T) (hnodup : (ps.map (·.1)).Nodup)
    (hK : AllF (fsA [] ps) fun EF G => TL r P Q N D B w0 (EF ++ envA L ps) (G ++ H) l.toArray (l.drop T)) {listed : Array Bool} {a : Act} {w : World} (hsz : listed.size = l.length)
    (hall : ∀ i, i < T → listed.getD i true = true) (hto : ∀ i, T ≤ i → i < l.length → listed.getD i true = false) (st : Stage2 l T ps N D B w0 L H s cb listed a w) (fuel : Nat) (hf : fuel + T = l.length) :
    wpAnyIn (FW r) 0 P .any l.toArray Q fuel listed a w := by
  refine wpAny_tail ok.ok fuel T listed a w hsz (fun i hi => ?_) (Nat.le_refl _) hf ?_
  · rcases Nat.lt_or_ge i T with h | h
    · rw [hall i h]; simp [h]
    · rw [hto i h hi]; simp; omega
  · have hJ : ∀ q ∈ fsA [] ps, ∃ j : Nat, ps[j]? = some (q.1, Post.rel q.2) ∧ listed.getD j true = true := fun q hq => by
      rcases (mem_fsA _ _ _).1 hq with h | ⟨j, hj⟩
      · cases h
      · exact ⟨j, hj, hall j (hidx j _ hj)⟩
    have hJn : ((fsA [] ps).map (·.1)).Nodup := fsA_nodup ps [] (by simpa using hnodup)
    obtain ⟨hσ, Is, R, X, _, _, _, hsh, hdone⟩ := st.heap hJn hJ
    have := AllF_inst (fun k => a.tmps.getD k undef) hσ _ _ hK (fun q hq => by
      obtain ⟨j, hj, hlj⟩ := hJ q hq
      obtain ⟨v, hv, hok⟩ := hdone j _ hj hlj
      have e : a.tmps.getD q.1 undef = v := by simp only at hv; simp [Array.getD_eq_getD_getElem?, hv]
      show q.2 (a.tmps.getD q.1 undef) _
      rw [e]; exact hok)
    refine this a w ⟨st.size, st.defers, fun t v h => ?_⟩ (hsh.sub ?_)
    · have hps : ps.take T = ps := by rw [hlen]; exact List.take_length
      refine st.lookup (i := T) (J := fsA [] ps) (fun j q hj _ => .inl ⟨hidx j q hj, hall j (hidx j q hj)⟩) hJ (fun q hq _ => by rw [hps] at hq; exact hq) (by rw [hps]; exact h)
    · refine (List.Sublist.append_left ?_ _)
      exact (List.sublist_append_right _ _).trans (List.sublist_append_right _ _)

/-- The stages of a drawn order, to its tail. -/
theorem wpAny_stage2 {l : List Oper} {T : Nat} {ps : List (Nat × Post)} (ok : DrawOK2 l T s u) (hLN : ∀ k v, lk L k = some v → k < N) (hlen : T = ps.length)
    (hps : ∀ (i : Nat) o, (l.take T)[i]? = some o → ∃ q, ps[i]? = some q ∧ q.1 < N ∧ ((o.dst = some q.1 ∧ ObR r P N D B w0 H l.toArray o q (envA L (ps.take i)) (fsA [] (ps.take i))) ∨ (o.dst = none ∧ q.1 = u ∧ (∃ k', q.2 = Post.rel (fun _ h => h = k')) ∧ ObS r P N D B w0 H cb l.toArray o q (envA L (ps.take i)) (fsA [] (ps.take i)))))
    (hK : AllF (fsA [] ps) fun EF G => TL r P Q N D B w0 (EF ++ envA L ps) (G ++ H) l.toArray (l.drop T)) :
    ∀ (fuel : Nat) (listed : Array Bool) (a : Act) (w : World), listed.size = l.length → (listed.toList.count false) = fuel → Closed l.toArray listed → (∀ i, T ≤ i → i < l.length → listed.getD i true = false) →
      Stage2 l T ps N D B w0 L H s cb listed a w → wpAnyIn (FW r) 0 P .any l.toArray Q fuel listed a w := by
  have hpl : ∀ i, i < T → ∃ o q, l[i]? = some o ∧ ps[i]? = some q ∧ q.1 < N ∧ ((o.dst = some q.1 ∧ ObR r P N D B w0 H l.toArray o q (envA L (ps.take i)) (fsA [] (ps.take i))) ∨ (o.dst = none ∧ q.1 = u ∧ (∃ k', q.2 = Post.rel (fun _ h => h = k')) ∧ ObS r P N D B w0 H cb l.toArray o q (envA L (ps.take i)) (fsA [] (ps.take i)))) := by
    intro i hi
    have hil : i < l.length := Nat.lt_of_lt_of_le hi ok.ok.hT
    have : (l.take T)[i]? = some l[i] := by rw [List.getElem?_take, if_pos hi, List.getElem?_eq_getElem hil]
    obtain ⟨q, h1, h2, h3⟩ := hps i _ this
    exact ⟨l[i], q, List.getElem?_eq_getElem hil, h1, h2, h3⟩
  have hidx : ∀ (i : Nat) q, ps[i]? = some q → i < T := fun i q h => by rw [hlen]; exact (List.getElem?_eq_some_iff.1 h).1
  have huniq : ∀ (i j : Nat) q p, ps[i]? = some q → ps[j]? = some p → q.1 = p.1 → i = j := by
    intro i j q p hi hj e
    by_cases hne : i = j
    · exact hne
    · obtain ⟨oi, qi, h1, h2, _, h3⟩ := hpl i (hidx i q hi)
      obtain ⟨oj, qj, h4, h5, _, h6⟩ := hpl j (hidx j p hj)
      rw [hi] at h2; rw [hj] at h5
      cases h2; cases h5
      have ui := ok.un i oi (hidx i _ hi) h1
      have uj := ok.un j oj (hidx j _ hj) h4
      rcases h3 with ⟨h3, _⟩ | ⟨h3, hu3, _⟩
      · rcases h6 with ⟨h6, _⟩ | ⟨h6, hu6, _⟩
        · exact absurd (by rw [h3, h6, e]) (ok.ok.dist i j oi oj (hidx i _ hi) (hidx j _ hj) hne h1 h4)
        · exact absurd (by rw [h3, e, hu6]) ui.2
      · rcases h6 with ⟨h6, _⟩ | ⟨h6, hu6, _⟩
        · exact absurd (by rw [h6, ← e, hu3]) uj.2
        · exact absurd (by rw [h3, h6]) (ok.ok.dist i j oi oj (hidx i _ hi) (hidx j _ hj) hne h1 h4)
  have hnodup : (ps.map (·.1)).Nodup := by
    rw [List.nodup_iff_pairwise_ne, List.pairwise_iff_getElem]
    intro i j hi hj hij e
    rw [List.getElem_map, List.getElem_map] at e
    have hi' : i < ps.length := by simpa using hi
    have hj' : j < ps.length := by simpa using hj
    have := huniq i j _ _ (List.getElem?_eq_getElem hi') (List.getElem?_eq_getElem hj') e
    omega
  intro fuel
  induction fuel with
  | zero =>
    intro listed a w hsz hcnt hcl hto st
    exact (wpAny_stage_done2 ok hlen hidx hnodup hK hsz (fun i hi => by
      cases hc : listed.getD i true with
      | true => rfl
      | false =>
        exfalso
        have hlt : i < listed.size := by have := ok.ok.hT; omega
        have : false ∈ listed.toList := by
          simp [hlt] at hc
          rw [← hc]; exact Array.getElem_mem_toList _
        exact absurd hcnt (by have := List.count_pos_iff.2 this; omega)) hto st 0 (by
      have : T = l.length := by
        rcases Nat.lt_or_ge T l.length with h | h
        · exfalso
          have h1 := hto T (Nat.le_refl _) h
          have hlt : T < listed.size := by omega
          have : false ∈ listed.toList := by
            simp [hlt] at h1
            rw [← h1]; exact Array.getElem_mem_toList _
          exact absurd hcnt (by have := List.count_pos_iff.2 this; omega)
        · have := ok.ok.hT; omega
      omega))
  | succ fuel ih =>
    intro listed a w hsz hcnt hcl hto st
    by_cases hall : ∀ i, i < T → listed.getD i true = true
    · -- the tail begins
      have hf : fuel + 1 + T = l.length := by
        have h1 : ∀ (m : List Bool) (T : Nat), T ≤ m.length → (∀ i, i < T → m[i]? = some true) → (∀ i, T ≤ i → i < m.length → m[i]? = some false) → m.count false + T = m.length := by
          intro m
          induction m with
          | nil => intro T h _ _; simp at h; simp [h]
          | cons x m ihm =>
            intro T hT ht hf
            cases T with
            | zero =>
              have hx : x = false := by have := hf 0 (Nat.le_refl _) (by simp); simpa using this
              have := ihm 0 (Nat.zero_le _) (fun i hi => by omega) (fun i _ hi => by have := hf (i + 1) (by omega) (by simp; omega); simpa using this)
              subst hx
              simp at this ⊢; omega
            | succ T =>
              have hx : x = true := by have := ht 0 (by omega); simpa using this
              have := ihm T (by simpa using hT) (fun i hi => by have := ht (i + 1) (by omega); simpa using this) (fun i hi hil => by have := hf (i + 1) (by omega) (by simp; omega); simpa using this)
              subst hx
              simp at this ⊢; omega
        have := h1 listed.toList T (by have := ok.ok.hT; simp; omega) (fun i hi => by
          have hlt : i < listed.size := by have := ok.ok.hT; omega
          have := hall i hi
          simp [hlt] at this ⊢; exact this) (fun i hi hil => by
          have hlt : i < listed.size := by simpa using hil
          have := hto i hi (by omega)
          simp [hlt] at this ⊢; exact this)
        rw [hcnt] at this
        simp at this; omega
      exact wpAny_stage_done2 ok hlen hidx hnodup hK hsz hall hto st _ hf
    · have hnot : ∃ i, i < T ∧ listed.getD i true = false := by
        refine Classical.byContradiction fun hn => hall fun i hi => ?_
        cases hc : listed.getD i true with
        | true => rfl
        | false => exact absurd ⟨i, hi, hc⟩ hn
      refine ⟨fun hnil => ?_, fun i hi => ?_⟩
      · obtain ⟨i, hiT, hc⟩ := hnot
        have := ready_nil hsz ok.ok.back hnil i (by have := ok.ok.hT; omega)
        rw [this] at hc; cases hc
      · obtain ⟨hun, ⟨o, ho⟩, hdeps⟩ := ready_deps hi
        have hil : i < l.length := (List.getElem?_eq_some_iff.1 ho).1
        have hiT : i < T := by
          rcases Nat.lt_or_ge i T with h | h
          · exact h
          · exfalso
            obtain ⟨j, hjT, hc⟩ := hnot
            have h3 := ok.ok.tail i h hil j (by omega)
            have h4 := reach_listed hcl (by simpa using hsz) l.length (depsL l.toArray i) (fun k hk => (getD_true (hdeps k hk)).1) j h3
            rw [h4] at hc; cases hc
        obtain ⟨o', q, ho', hq, hdN, hob⟩ := hpl i hiT
        rw [ho] at ho'
        cases ho'
        -- what it looks at has been written in turn
        have hturn : ∀ t ∈ o.looksAt l.toArray, ∀ (j : Nat) p, ps[j]? = some p → p.1 = t → (j < i ∧ listed.getD j true = true) ∨ (i < j ∧ listed.getD j true = false) := by
          intro t ht j p hp hpt
          obtain ⟨oj, pj, h1, h2, _, h3⟩ := hpl j (hidx j p hp)
          rw [hp] at h2
          cases h2
          have h3 : oj.dst = some p.1 := by
            rcases h3 with ⟨h3, _⟩ | ⟨_, hu3, _⟩
            · exact h3
            · exfalso; rw [← hpt, hu3] at ht; exact (ok.un i o hiT ho).1 ht
          have hj := ok.ok.look i j t o oj hiT (hidx j p hp) h1 (by rw [h3, hpt]) ho ht
          rcases hj with hj | hj
          · exact .inl ⟨ok.ok.back i hil j hj, (getD_true (hdeps j hj)).1⟩
          · have hjl : j < l.length := Nat.lt_of_lt_of_le (hidx j p hp) ok.ok.hT
            refine .inr ⟨reach_lt ok.ok.back l.length _ j (fun k hk => ok.ok.back j hjl k hk) i hj (Nat.le_of_lt hjl), ?_⟩
            cases hlj : listed.getD j true with
            | false => rfl
            | true =>
              have h4 := reach_listed hcl (by simpa using hsz) l.length (depsL l.toArray j) (fun k hk => hcl j (by omega) hlj k hk) i hj
              rw [h4] at hun; cases hun
        -- the facts that it needs
        have hJ : ∀ f ∈ fltF l.toArray o (fsA [] (ps.take i)), ∃ j : Nat, ps[j]? = some (f.1, Post.rel f.2) ∧ listed.getD j true = true := by
          intro f hf
          obtain ⟨h1, h2⟩ := List.mem_filter.1 hf
          rcases (mem_fsA _ _ _).1 h1 with h | ⟨j, hj⟩
          · cases h
          · rw [List.getElem?_take] at hj
            split at hj
            · rename_i hji
              refine ⟨j, hj, ?_⟩
              rcases hturn f.1 (List.contains_iff_mem.1 h2) j _ hj rfl with h | h
              · exact h.2
              · omega
            · cases hj
        have hJn : ((fltF l.toArray o (fsA [] (ps.take i))).map (·.1)).Nodup := by
          have h1 : ((fsA [] (ps.take i)).map (·.1)).Nodup := fsA_nodup _ [] (by
            simp only [List.map_nil, List.nil_append]
            rw [List.map_take]
            exact (List.take_sublist _ _).nodup hnodup)
          exact ((List.filter_sublist (l := fsA [] (ps.take i)) (p := fun q => (o.looksAt l.toArray).contains q.1)).map (fun q : Fact => q.1)).nodup h1
        obtain ⟨hσ, Is, R, X, hIn, hIs, hperm, hsh, hdone⟩ := st.heap hJn hJ
        have hva : ∀ (j : Nat) p, ps[j]? = some p → listed.getD j true = true → ∃ v, a.tmps[p.1]? = some v ∧ a.tmps.getD p.1 undef = v ∧ p.2.ok v (hσ p.1) := by
          intro j p hp hlj
          obtain ⟨v, h1, h2⟩ := hdone j p hp hlj
          exact ⟨v, h1, by simp [Array.getD_eq_getD_getElem?, h1], h2⟩
        have hfa : ∀ q ∈ fltF l.toArray o (fsA [] (ps.take i)), q.2 (a.tmps.getD q.1 undef) (hσ q.1) := fun f hf => by
          obtain ⟨j, hj, hlj⟩ := hJ f hf
          obtain ⟨v, _, e, hok⟩ := hva j _ hj hlj
          show f.2 (a.tmps.getD f.1 undef) _
          rw [show a.tmps.getD f.1 undef = v from e]; exact hok
        have hilt : i < listed.size := by omega
        -- what is left over, and what is kept beside
        obtain ⟨hTL, hdst⟩ : (∀ b w, Fr N D ((List.map (fun f : Fact => (f.1, a.tmps.getD f.1 undef)) (fltF l.toArray o (fsA [] (ps.take i)))) ++ envA L (ps.take i)) b → SH B w0 w ((fltF l.toArray o (fsA [] (ps.take i))).flatMap (fun q => hσ q.1) ++ ((R.flatMap hσ ++ X) ++ (pd s cb listed ++ H))) →
            wpListIn (FW r) 0 P l.toArray (QR D B w0 q.1 q.2.ok ((fltF l.toArray o (fsA [] (ps.take i))).flatMap (fun q => hσ q.1) ++ ((R.flatMap hσ ++ X) ++ (pd s cb (listed.setIfInBounds i true) ++ H)))) [o] b w) ∧ (o.dst = some q.1 ∨ (o.dst = none ∧ (∃ k', q.2 = Post.rel (fun _ h => h = k')))) := by
          rcases hob with ⟨hd, hob⟩ | ⟨hd, hu, hk, hob⟩
          · have hne : i ≠ s := fun e => by
              have := (ok.st i o hiT ho).2 e
              rw [this] at hd; cases hd
            have epd : pd s cb (listed.setIfInBounds i true) = pd s cb listed := by unfold pd; rw [set_getD, if_neg hne]
            rw [epd]
            refine ⟨fun b w hb hw => ?_, .inl hd⟩
            have h1 := AllF_inst (fun k => a.tmps.getD k undef) hσ _ _ hob hfa ((R.flatMap hσ ++ X) ++ pd s cb listed)
            rw [show ((R.flatMap hσ ++ X) ++ pd s cb listed) ++ H = (R.flatMap hσ ++ X) ++ (pd s cb listed ++ H) from List.append_assoc _ _ _] at h1
            exact h1 b w hb hw
          · have es : i = s := (ok.st i o hiT ho).1 hd
            subst es
            have e1 : pd i cb listed = cb := by
              unfold pd; rw [if_neg]
              have : listed.getD i true = false := hun
              rw [this]; simp
            have e2 : pd i cb (listed.setIfInBounds i true) = [] := by unfold pd; rw [set_getD, if_pos rfl, if_pos rfl]
            rw [e1, e2]
            refine ⟨fun b w hb hw => ?_, .inr ⟨hd, hk⟩⟩
            exact AllF_inst (fun k => a.tmps.getD k undef) hσ _ _ hob hfa (R.flatMap hσ ++ X) b w hb hw
        -- the frame of its own walk
        obtain ⟨EE, hEE⟩ : ∃ EE, EE = (List.map (fun f : Fact => (f.1, a.tmps.getD f.1 undef)) (fltF l.toArray o (fsA [] (ps.take i)))) ++ envA L (ps.take i) := ⟨_, rfl⟩
        rw [← hEE] at hTL
        have hkN : ∀ k v, lk EE k = some v → k < N := by
          intro k v h
          rw [hEE, lk_append] at h
          cases hl : lk (List.map (fun f : Fact => (f.1, a.tmps.getD f.1 undef)) (fltF l.toArray o (fsA [] (ps.take i)))) k with
          | some u =>
            obtain ⟨_, f, hf, rfl⟩ := lk_map_some (va := fun k => a.tmps.getD k undef) hl
            obtain ⟨j, hj, _⟩ := hJ f hf
            obtain ⟨_, p, _, h2, h4, _⟩ := hpl j (hidx j _ hj)
            rw [hj] at h2; cases h2; exact h4
          | none =>
            rw [hl] at h
            rcases lk_envA _ _ _ _ h with ⟨j, c, h1, _⟩ | ⟨h1, _⟩
            · rw [List.getElem?_take] at h1
              split at h1
              · obtain ⟨_, p, _, h2, h4, _⟩ := hpl j (hidx j _ h1)
                rw [h1] at h2; cases h2; exact h4
              · cases h1
            · exact hLN k v h1
        let b : Act := { tmps := Array.ofFn (n := N) (fun k => match lk EE k with | some v => v | none => a.tmps.getD k undef), defers := a.defers }
        have hbget : ∀ k, k < N → b.tmps[k]? = some (match lk EE k with | some v => v | none => a.tmps.getD k undef) := by
          intro k hk
          simp [b, hk]
        have hFr : Fr N D EE b := ⟨by simp [b], st.defers, fun k v hk => by rw [hbget k (hkN k v hk), hk]⟩
        have hagree : ∀ t ∈ o.looksAt l.toArray, b.tmps.getD t undef = a.tmps.getD t undef := by
          intro t ht
          rcases Nat.lt_or_ge t N with htN | htN
          · rw [Array.getD_eq_getD_getElem?, hbget t htN]
            cases hl : lk EE t with
            | none => rfl
            | some v =>
              have := st.lookup (i := i) (J := fltF l.toArray o (fsA [] (ps.take i))) (t := t) (v := v) (hturn t ht) hJ
                (fun f hf hft => List.mem_filter.2 ⟨hf, List.contains_iff_mem.2 (hft ▸ ht)⟩) (by rw [hEE] at hl; exact hl)
              simp [this]
          · have h1 : b.tmps[t]? = none := by simp [b]; exact htN
            have h2 : a.tmps[t]? = none := by simp [st.size]; exact htN
            simp [Array.getD_eq_getD_getElem?, h1, h2]
        have hw0 := hTL b w hFr hsh
        -- what comes of it
        have hnext : ∀ (v v2 : Value) (w' : World) (h : Hp), (a.put o.dst v).tmps[q.1]? = some v2 → q.2.ok v2 h → SH B w0 w' (h ++ ((fltF l.toArray o (fsA [] (ps.take i))).flatMap (fun q => hσ q.1) ++ ((R.flatMap hσ ++ X) ++ (pd s cb (listed.setIfInBounds i true) ++ H)))) →
            wpAnyIn (FW r) 0 P .any l.toArray Q fuel (listed.setIfInBounds i true) (a.put o.dst v) w' := by
          intro v v2 w' h hq2 hok hsh'
          refine ih _ _ _ (by simpa using hsz) ?_ (hcl.set fun k hk => (getD_true (hdeps k hk)).1) (fun j hj hjl => ?_) ?_
          · have e : (listed.setIfInBounds i true).toList = listed.toList.set i true := by simp
            rw [e, List.count_set (by simpa using hilt)]
            have : listed.toList[i]'(by simpa using hilt) = false := by simp [hilt] at hun; simpa using hun
            simp [this, hcnt]
          · rw [set_getD, if_neg (by omega)]; exact hto j hj hjl
          · have hq1 : ∀ t, t ≠ q.1 → (a.put o.dst v).tmps[t]? = a.tmps[t]? := by
              intro t ht
              rcases hdst with hdst | ⟨hdst, _⟩ <;> rw [hdst]
              · simp [Act.put, Array.getElem?_setIfInBounds_ne (Ne.symm ht)]
              · rfl
            have hasz : (a.put o.dst v).tmps.size = N := by
              rcases hdst with hdst | ⟨hdst, _⟩ <;> rw [hdst]
              · simp [Act.put, st.size]
              · exact st.size
            have hadf : (a.put o.dst v).defers = D := by
              rcases hdst with hdst | ⟨hdst, _⟩ <;> rw [hdst] <;> exact st.defers
            refine ⟨hasz, hadf, fun t u ht hno => ?_, ?_⟩
            · have hne : t ≠ q.1 := by
                rintro rfl
                have := hno i q hq rfl
                rw [set_getD, if_pos rfl] at this
                cases this
              rw [hq1 t hne]
              refine st.base t u ht (fun j p hp hpt => ?_)
              have := hno j p hp hpt
              rw [set_getD] at this
              split at this
              · cases this
              · exact this
            · have hqI : q.1 ∉ Is := by
                intro hm
                obtain ⟨j, p, hp, hpq, hlj⟩ := (hIs _).1 hm
                have := huniq j i p q hp hq hpq
                subst this
                rw [hlj] at hun; cases hun
              refine ⟨fun d => if d = q.1 then h else hσ d, q.1 :: Is, X, List.nodup_cons.2 ⟨hqI, hIn⟩, fun d => ?_, ?_, fun j p hp hlj => ?_⟩
              · rw [List.mem_cons, hIs]
                constructor
                · rintro (rfl | ⟨j, p, hp, hpd, hlj⟩)
                  · exact ⟨i, q, hq, rfl, by rw [set_getD, if_pos rfl]⟩
                  · refine ⟨j, p, hp, hpd, ?_⟩
                    rw [set_getD]; split
                    · rfl
                    · exact hlj
                · rintro ⟨j, p, hp, hpd, hlj⟩
                  by_cases e : i = j
                  · subst e
                    rw [hq] at hp; cases hp
                    exact .inl hpd.symm
                  · rw [set_getD, if_neg e] at hlj
                    exact .inr ⟨j, p, hp, hpd, hlj⟩
              · refine hsh'.perm ?_
                rw [List.flatMap_cons, if_pos rfl, flatMap_congr' (g := hσ) (fun d hd => by
                  have hne : d ≠ q.1 := by rintro rfl; exact hqI hd
                  rw [if_neg hne])]
                have := (hperm.append_right (X ++ (pd s cb (listed.setIfInBounds i true) ++ H)))
                rw [List.append_assoc]
                refine List.Perm.append_left h ?_
                simpa [List.append_assoc] using this
              · by_cases e : i = j
                · subst e
                  rw [hq] at hp; cases hp
                  exact ⟨v2, hq2, by simpa using hok⟩
                · rw [set_getD, if_neg e] at hlj
                  obtain ⟨u, h1, h2⟩ := hdone j p hp hlj
                  have hne : p.1 ≠ q.1 := fun e' => e (huniq i j q p hq hp e'.symm)
                  exact ⟨u, by rw [hq1 _ hne]; exact h1, by simpa [hne] using h2⟩
        have hread : ∀ (v : Value) (w' : World), wpListIn (FW r) 0 P l.toArray (QR D B w0 q.1 q.2.ok ((fltF l.toArray o (fsA [] (ps.take i))).flatMap (fun q => hσ q.1) ++ ((R.flatMap hσ ++ X) ++ (pd s cb (listed.setIfInBounds i true) ++ H)))) [] (b.put o.dst v) w' →
            wpAnyIn (FW r) 0 P .any l.toArray Q fuel (listed.setIfInBounds i true) (a.put o.dst v) w' := by
          rintro v w' ⟨_, _, v', h, hv', hok, hsh'⟩
          have hsz' : b.tmps.size = N := by simp [b]
          rcases hdst with hdst | ⟨hdst, k', hk⟩
          · have : v' = v := by
              rw [hdst] at hv'
              simp [Act.put, hsz', hdN] at hv'
              exact hv'.symm
            subst this
            exact hnext v' v' w' h (by rw [hdst]; simp [Act.put, st.size, hdN]) hok hsh'
          · have hlt : q.1 < a.tmps.size := by rw [st.size]; exact hdN
            refine hnext v a.tmps[q.1] w' h (by rw [hdst]; exact Array.getElem?_eq_getElem hlt) ?_ hsh'
            rw [hk] at hok ⊢
            exact hok
        have hplain := ok.ok.plain o (List.mem_of_getElem? ho)
        have hnd : ∀ c, o.op ≠ .defer c := fun c e => by rw [e] at hplain; cases hplain
        have hns : ∀ cs bb, o.op ≠ .select cs bb := fun c bb e => by rw [e] at hplain; cases hplain
        have hexec : execOp b.eval o = execOp a.eval o := execOp_congr o hns (eval_congr hagree)
        unfold wpOpIn
        simp only [List.getElem?_toArray, ho]
        unfold wpListIn at hw0
        rw [wanted_congr hagree] at hw0
        split
        · rename_i hwant
          rw [if_pos hwant] at hw0
          refine ⟨fun _ _ => trivial, ?_⟩
          have h2 := hw0.2
          rw [semAt_any hnd, hexec] at h2
          rw [semAt_any hnd]
          generalize (execOp a.eval o).run P w = res at *
          cases res with
          | ok x w' =>
            cases x <;> simp only [Oper.uponIn] at h2 ⊢
            case value v => exact hread v w' h2
            case skip => exact hread _ w' h2
            case enter f args =>
              refine ⟨h2.1, CallsIn.mono h2.2 fun e w'' he => ?_⟩
              cases e with
              | returned v => exact hread v w'' he
              | panicked ch => cases he.1
              | outgrown => obtain ⟨_, _, he⟩ := he; cases he.1
            case row row args => exact ⟨h2.1, RowsIn.mono h2.2 fun v w'' he => hread v w'' he⟩
            case round lp f tm asg bd =>
              refine ⟨h2.1, RoundIn.mono h2.2 fun e w'' he => ?_⟩
              cases e with
              | returned v => exact hread v w'' he
              | panicked ch => cases he.1
              | outgrown => obtain ⟨_, _, he⟩ := he; cases he.1
            case defer dd =>
              exfalso
              have h3 : dd :: b.defers = D := by
                have := h2.2.1
                rcases hdst with hdst | ⟨hdst, _⟩ <;> rw [hdst] at this <;> exact this
              have h4 : b.defers = D := hFr.defers
              rw [h4] at h3
              have := congrArg List.length h3
              simp at this
          | halt x w' =>
            cases x <;> simp only [Oper.uponIn] at h2 ⊢
            case panic v => cases h2.1
        · rename_i hwant
          rw [if_neg hwant] at hw0
          exact ⟨fun _ _ => trivial, hread _ _ hw0.2⟩


/-- **A region that draws its order, one store of which floats**: it turns block n of H alone, and nothing else ahead of the tail looks at that. -/
theorem TC_draw2 {id : Nat} {l : List Oper} (T s u n : Nat) {bk : Nat × Blk} {ps : List (Nat × Post)} (hn : atN n H = some bk) (hc : drawOk2 l T s u = true) (hsT : Nat.blt s T = true) (hm : P.follows .mixedOrders = true) (hPG : PG2 r P N D B w0 (dropAt n H) [bk] u l.toArray (l.take T) L [] ps)
    (hK : AllF (fsA [] ps) fun EF G => TL r P Q N D B w0 (EF ++ envA L ps) (G ++ dropAt n H) l.toArray (l.drop T)) : TC r P Q N D B w0 L H (.region id l.toArray true) := by
  intro a w hf hs0
  have hs : SH B w0 w ([bk] ++ dropAt n H) := hs0.perm (dropAt_perm n H bk hn)
  have ok := drawOk2_spec hc
  obtain ⟨hlen, hps⟩ := PG2_spec hPG
  have hT : T = ps.length := by rw [← hlen, List.length_take]; have := ok.ok.hT; omega
  have hsT : s < T := by simpa using hsT
  refine wpIn_region_any hm ?_
  have hrep : ∀ i, i < l.length → (Array.replicate l.toArray.size false).getD i true = false := fun i hi => by simp [hi]
  have hsl : s < l.length := by have := ok.ok.hT; omega
  refine wpAny_stage2 (s := s) (u := u) (cb := [bk]) ok (fun k v h => ?_) hT hps hK _ _ a _ (by simp) (by simp) ?_ (fun i _ hi => by simpa using hrep i hi) ⟨hf.size, hf.defers, fun t v h _ => hf.get t v h, fun _ => [], [], [], List.nodup_nil, fun d => ?_, ?_, fun j q hj hl => ?_⟩
  · have := (Array.getElem?_eq_some_iff.1 (hf.get k v h)).1
    rw [hf.size] at this; exact this
  · intro i hi hli
    exfalso
    have h1 : i < l.length := by simpa using hi
    rw [hrep i h1] at hli; cases hli
  · constructor
    · intro h; cases h
    · rintro ⟨j, q, hj, _, hl⟩
      exfalso
      have h1 : j < l.length := by have := (List.getElem?_eq_some_iff.1 hj).1; have := ok.ok.hT; omega
      rw [hrep j h1] at hl; cases hl
  · have : pd s [bk] (Array.replicate l.toArray.size false) = [bk] := by unfold pd; rw [if_neg]; rw [hrep s hsl]; simp
    rw [this]
    exact hs.drew
  · exfalso
    have h1 : j < l.length := by have := (List.getElem?_eq_some_iff.1 hj).1; have := ok.ok.hT; omega
    rw [hrep j h1] at hl; cases hl
theorem TQ_QD {H1 H' : Hp} (hH : ∀ w, SH B w0 w H1 → SH B w0 w H') : TQ (bodyQD N D B w0 H') N D B w0 L H1 .normal := fun _ _ hf hs => ⟨rfl, hf.size, hf.defers, hH _ hs⟩
theorem pv2 {o : Oper} {E : Env} {Fs : List Fact} {d : Nat} {c : Value} {ps : List (Nat × Post)} (k : PG2 r P N D B w0 H cb u ops rest ((d, c) :: E) Fs ps) (h1 : o.dst = some d := by exact rfl) (h2 : Nat.blt d N = true := by exact rfl)
    (h3 : AllF (fltF ops o Fs) (fun EF G => ∀ X : Hp, TL r P (QV D B w0 d c (G ++ (X ++ H))) N D B w0 (EF ++ E) (G ++ (X ++ H)) ops [o]) := by
      intro _X
      refine r1 ?_
      apply TL_nil
      exact TQ_QV rfl (fun _ h => h)) : PG2 r P N D B w0 H cb u ops (o :: rest) E Fs ((d, .val c) :: ps) := PG2.val h1 h2 h3 k
theorem pg2 {o : Oper} {E : Env} {Fs : List Fact} {d : Nat} {c : Value} {ps : List (Nat × Post)} (k : PG2 r P N D B w0 H cb u ops rest ((d, c) :: E) Fs ps) (h1 : o.dst = some d := by exact rfl) (h2 : Nat.blt d N = true := by exact rfl)
    (h3 : AllF (fltF ops o Fs) (fun EF G => ∀ X : Hp, TL r P (QV D B w0 d c (G ++ (X ++ H))) N D B w0 (EF ++ E) (G ++ (X ++ H)) ops [o]) := by
      intro _X
      refine r1 ?_
      refine r1 ?_
      apply TL_nil
      exact TQ_QV rfl (fun _ h => h)) : PG2 r P N D B w0 H cb u ops (o :: rest) E Fs ((d, .val c) :: ps) := PG2.val h1 h2 h3 k
end
end Go.Eng
