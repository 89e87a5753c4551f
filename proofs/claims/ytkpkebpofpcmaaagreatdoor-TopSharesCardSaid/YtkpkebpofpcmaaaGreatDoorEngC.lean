/- The engine, part 12: drawn regions in which one store floats: it may come ahead of operations that do not look at what it turns. -/
import Derived.Test.YtkpkebpofpcmaaaGreatDoorEngB
import Derived.ChangeKeysEq
import Derived.Lib.LazyBuf
import Derived.Laws.BitsAllLaws
namespace Go.Eng
open Go Go.RowKit

/-- An end that names the heap alone. -/
def bodyQD (N : Nat) (D : List Deferred) (B : Nat) (w0 : World) (H' : Hp) : Exit → Act → World → Prop := fun e a w => e = .normal ∧ a.tmps.size = N ∧ a.defers = D ∧ SH B w0 w H'

def dropAt : Nat → Hp → Hp
  | _, [] => []
  | 0, _ :: H => H
  | n + 1, x :: H => x :: dropAt n H
def atN : Nat → Hp → Option (Nat × Blk)
  | _, [] => none
  | 0, x :: _ => some x
  | n + 1, _ :: H => atN n H
theorem dropAt_perm : ∀ (n : Nat) (H : Hp) (x : Nat × Blk), atN n H = some x → (x :: dropAt n H).Perm H := by
  intro n
  induction n with
  | zero => intro H x h; cases H with
    | nil => cases h
    | cons y H => cases h; exact List.Perm.refl _
  | succ n ih => intro H x h; cases H with
    | nil => cases h
    | cons y H => exact (List.Perm.swap y x _).trans ((ih H x h).cons y)

/-- The check: as 'drawOk', where operation s has no slot; u is a slot that nothing here looks at or writes. -/
def drawOk2 (l : List Oper) (T s u : Nat) : Bool :=
  drawOk l T && ((l.take T).all fun o => !(o.looksAt l.toArray).contains u && !(o.dst == some u)) &&
  ((List.range T).all fun i => match l[i]? with | some o => Nat.beq i s == o.dst.isNone | none => true)
structure DrawOK2 (l : List Oper) (T s u : Nat) : Prop where
  ok : DrawOK l T
  un : ∀ (i : Nat) o, i < T → l[i]? = some o → u ∉ o.looksAt l.toArray ∧ o.dst ≠ some u
  st : ∀ (i : Nat) o, i < T → l[i]? = some o → (o.dst = none ↔ i = s)
theorem drawOk2_spec {l : List Oper} {T s u : Nat} (h : drawOk2 l T s u = true) : DrawOK2 l T s u := by
  simp only [drawOk2, Bool.and_eq_true] at h
  obtain ⟨⟨h1, h2⟩, h3⟩ := h
  refine ⟨drawOk_spec h1, fun i o hi ho => ?_, fun i o hi ho => ?_⟩
  · have hm : o ∈ l.take T := List.mem_of_getElem? (by rw [List.getElem?_take, if_pos hi]; exact ho)
    have := List.all_eq_true.1 h2 o hm
    simp only [Bool.and_eq_true, Bool.not_eq_true', beq_eq_false_iff_ne] at this
    refine ⟨fun hc => ?_, this.2⟩
    have h4 := List.contains_iff_mem.2 hc
    rw [this.1] at h4; cases h4
  · have := List.all_eq_true.1 h3 i (List.mem_range.2 hi)
    simp only [ho, beq_iff_eq] at this
    constructor
    · intro e
      rw [e] at this
      exact Nat.eq_of_beq_eq_true this
    · intro e
      have h5 : Nat.beq i s = true := by rw [e]; exact Nat.beq_refl _
      rw [h5] at this
      exact Option.isNone_iff_eq_none.1 this.symm

section
variable (r : Option Nat) (P : Program) (N : Nat) (D : List Deferred) (B : Nat) (w0 : World) (H : Hp) (cb : Hp) (u : Nat) (ops : Array Oper)
def ObS (o : Oper) (q : Nat × Post) (E : Env) (Fs : List Fact) : Prop :=
  AllF (fltF ops o Fs) fun EF G => ∀ X : Hp, TL r P (QR D B w0 q.1 q.2.ok (G ++ (X ++ H))) N D B w0 (EF ++ E) (G ++ (X ++ (cb ++ H))) ops [o]
inductive PG2 : List Oper → Env → List Fact → List (Nat × Post) → Prop
  | nil {E Fs} : PG2 [] E Fs []
  | val {o rest E Fs d c ps} : o.dst = some d → Nat.blt d N = true → (AllF (fltF ops o Fs) fun EF G => ∀ X : Hp, TL r P (QV D B w0 d c (G ++ (X ++ H))) N D B w0 (EF ++ E) (G ++ (X ++ H)) ops [o]) →
      PG2 rest ((d, c) :: E) Fs ps → PG2 (o :: rest) E Fs ((d, .val c) :: ps)
  | rel {o rest E Fs d ps} (Φ : Value → Hp → Prop) : o.dst = some d → Nat.blt d N = true → (AllF (fltF ops o Fs) fun EF G => ∀ X : Hp, TL r P (QR D B w0 d Φ (G ++ (X ++ H))) N D B w0 (EF ++ E) (G ++ (X ++ H)) ops [o]) →
      PG2 rest E ((d, Φ) :: Fs) ps → PG2 (o :: rest) E Fs ((d, .rel Φ) :: ps)
  | sto {o rest E Fs ps} (k' : Hp) : o.dst = none → Nat.blt u N = true → (AllF (fltF ops o Fs) fun EF G => ∀ X : Hp, TL r P (bodyQD N D B w0 (G ++ (X ++ (k' ++ H)))) N D B w0 (EF ++ E) (G ++ (X ++ (cb ++ H))) ops [o]) →
      PG2 rest E ((u, fun _ h => h = k') :: Fs) ps → PG2 (o :: rest) E Fs ((u, .rel (fun _ h => h = k')) :: ps)
end
section
variable {r : Option Nat} {P : Program} {Q : Exit → Act → World → Prop} {N : Nat} {D : List Deferred} {B : Nat} {w0 : World} {L : Env} {H : Hp} {ops : Array Oper} {rest : List Oper} {cb : Hp} {s u : Nat}

def pd (s : Nat) (cb : Hp) (listed : Array Bool) : Hp := if listed.getD s true = true then [] else cb
structure Stage2 (l : List Oper) (T : Nat) (ps : List (Nat × Post)) (N : Nat) (D : List Deferred) (B : Nat) (w0 : World) (L : Env) (H : Hp) (s : Nat) (cb : Hp) (listed : Array Bool) (a : Act) (w : World) : Prop where
  size : a.tmps.size = N
  defers : a.defers = D
  base : ∀ t v, lk L t = some v → (∀ (j : Nat) q, ps[j]? = some q → q.1 = t → listed.getD j true = false) → a.tmps[t]? = some v
  done : ∃ (hσ : Nat → Hp) (Is : List Nat) (X : Hp), Is.Nodup ∧ (∀ d, d ∈ Is ↔ ∃ (j : Nat) (q : Nat × Post), ps[j]? = some q ∧ q.1 = d ∧ listed.getD j true = true) ∧
    SH B w0 w (Is.flatMap hσ ++ (X ++ (pd s cb listed ++ H))) ∧ ∀ (j : Nat) q, ps[j]? = some q → listed.getD j true = true → ∃ v, a.tmps[q.1]? = some v ∧ q.2.ok v (hσ q.1)

/-- In a stage, the environment of an operation's own walk holds, as far as the slot is not written out of turn. -/
theorem Stage2.lookup {l : List Oper} {T : Nat} {ps : List (Nat × Post)} {listed : Array Bool} {a : Act} {w : World} (st : Stage2 l T ps N D B w0 L H s cb listed a w) {i : Nat} {J : List Fact} {t : Nat} {v : Value}
    (hturn : ∀ (j : Nat) q, ps[j]? = some q → q.1 = t → (j < i ∧ listed.getD j true = true) ∨ (i < j ∧ listed.getD j true = false)) (hJ : ∀ q ∈ J, ∃ j : Nat, ps[j]? = some (q.1, Post.rel q.2) ∧ listed.getD j true = true)
    (hJt : ∀ q ∈ fsA [] (ps.take i), q.1 = t → q ∈ J)
    (h : lk ((J.map fun q => (q.1, a.tmps.getD q.1 undef)) ++ envA L (ps.take i)) t = some v) : a.tmps[t]? = some v := by
  obtain ⟨hσ, Is, X, _, _, _, hdone⟩ := st.done
  rw [lk_append] at h
  cases hl : lk (J.map fun q => (q.1, a.tmps.getD q.1 undef)) t with
  | some u =>
    rw [hl] at h
    cases h
    obtain ⟨h1, q, hq, h2⟩ := lk_map_some (va := fun k => a.tmps.getD k undef) hl
    subst h2
    obtain ⟨j, hj, hlj⟩ := hJ q hq
    obtain ⟨v', hv', _⟩ := hdone j _ hj hlj
    rw [h1]
    simp only at hv'
    simp [Array.getD_eq_getD_getElem?, hv']
  | none =>
    rw [hl] at h
    rcases lk_envA _ _ _ _ h with ⟨j, c, h1, h2⟩ | ⟨h1, h2⟩
    · subst h2
      rw [List.getElem?_take] at h1
      split at h1
      · rename_i hji
        have hlj : listed.getD j true = true := by
          rcases hturn j _ h1 rfl with h | h
          · exact h.2
          · omega
        obtain ⟨v', hv', hv2, _⟩ := hdone j _ h1 hlj
        rw [hv2] at hv'; exact hv'
      · cases h1
    · refine st.base t v h1 (fun j q hj hq => ?_)
      rcases hturn j q hj hq with ⟨hji, hlj⟩ | h
      rotate_left
      · exact h.2
      exfalso
      subst hq
      obtain ⟨d, p⟩ := q
      have ht : (ps.take i)[j]? = some (d, p) := by rw [List.getElem?_take, if_pos hji]; exact hj
      cases p with
      | val c => exact h2 j c ht
      | rel Φ =>
        have hm := hJt (d, Φ) ((mem_fsA _ _ _).2 (.inr ⟨j, ht⟩)) rfl
        exact lk_map_none (va := fun k => a.tmps.getD k undef) hl _ hm rfl

theorem Stage2.heap {l : List Oper} {T : Nat} {ps : List (Nat × Post)} {listed : Array Bool} {a : Act} {w : World} (st : Stage2 l T ps N D B w0 L H s cb listed a w) {J : List Fact} (hJn : (J.map (·.1)).Nodup)
    (hJ : ∀ q ∈ J, ∃ j : Nat, ps[j]? = some (q.1, Post.rel q.2) ∧ listed.getD j true = true) :
    ∃ (hσ : Nat → Hp) (Is R : List Nat) (X : Hp), Is.Nodup ∧ (∀ d, d ∈ Is ↔ ∃ (j : Nat) (q : Nat × Post), ps[j]? = some q ∧ q.1 = d ∧ listed.getD j true = true) ∧ (Is.flatMap hσ).Perm ((J.flatMap fun q => hσ q.1) ++ R.flatMap hσ) ∧
      SH B w0 w ((J.flatMap fun q => hσ q.1) ++ ((R.flatMap hσ ++ X) ++ (pd s cb listed ++ H))) ∧ (∀ (j : Nat) q, ps[j]? = some q → listed.getD j true = true → ∃ v, a.tmps[q.1]? = some v ∧ q.2.ok v (hσ q.1)) := by
  obtain ⟨hσ, Is, X, h1, h2, h3, h4⟩ := st.done
  obtain ⟨R, hR⟩ := perm_pick h1 hJn (fun d hd => by
    obtain ⟨q, hq, rfl⟩ := List.mem_map.1 hd
    obtain ⟨j, hj, hlj⟩ := hJ q hq
    exact (h2 _).2 ⟨j, _, hj, rfl, hlj⟩)
  have hp : (Is.flatMap hσ).Perm ((J.flatMap fun q => hσ q.1) ++ R.flatMap hσ) := by
    have := hR.flatMap_right hσ
    rw [List.flatMap_append, List.flatMap_map] at this
    exact this
  refine ⟨hσ, Is, R, X, h1, h2, hp, h3.perm ?_, h4⟩
  have := (hp.append_right (X ++ (pd s cb listed ++ H))).symm
  simpa [List.append_assoc] using this

/-- All ahead of the tail is done. -/
theorem wpAny_stage_done2 {l : List Oper} {T : Nat} {ps : List (Nat × Post)} (ok : DrawOK2 l T s u) (hlen : T = ps.length)
    (hidx : ∀ (i : Nat) q, ps[i]? = some q → i < T) (hnodup : (ps.map (·.1)).Nodup)
    (hK : AllF (fsA [] ps) fun EF G => TL r P Q N D B w0 (EF ++ envA L ps) (G ++ H) l.toArray (l.drop T)) {listed : Array Bool} {a : Act} {w : World} (hsz : listed.size = l.length)
    (hall : ∀ i, i < T → listed.getD i true = true) (hto : ∀ i, T ≤ i → i < l.length → listed.getD i true = false) (st : Stage2 l T ps N D B w0 L H s cb listed a w) (fuel : Nat) (hf : fuel + T = l.length) :
    wpAnyIn (FW r) 0 P .any l.toArray Q fuel listed a w := by
  refine wpAny_tail ok.ok fuel T listed a w hsz (fun i hi => ?_) (Nat.le_refl _) hf ?_
  · rcases Nat.lt_or_ge i T with h | h
    · rw [hall i h]; simp [h]
    · rw [hto i h hi]; simp; omega
  · have hJ : ∀ q ∈ fsA [] ps, ∃ j : Nat, ps[j]? = some (q.1, Post.rel q.2) ∧ listed.getD j true = true := fun q hq => by
      rcases (mem_fsA _ _ _).1 hq with h | ⟨j, hj⟩
      · cases h
      · exact ⟨j, hj, hall j (hidx j _ hj)⟩
    have hJn : ((fsA [] ps).map (·.1)).Nodup := fsA_nodup ps [] (by simpa using hnodup)
    obtain ⟨hσ, Is, R, X, _, _, _, hsh, hdone⟩ := st.heap hJn hJ
    have := AllF_inst (fun k => a.tmps.getD k undef) hσ _ _ hK (fun q hq => by
      obtain ⟨j, hj, hlj⟩ := hJ q hq
      obtain ⟨v, hv, hok⟩ := hdone j _ hj hlj
      have e : a.tmps.getD q.1 undef = v := by simp only at hv; simp [Array.getD_eq_getD_getElem?, hv]
      show q.2 (a.tmps.getD q.1 undef) _
      rw [e]; exact hok)
    refine this a w ⟨st.size, st.defers, fun t v h => ?_⟩ (hsh.sub ?_)
    · have hps : ps.take T = ps := by rw [hlen]; exact List.take_length
      refine st.lookup (i := T) (J := fsA [] ps) (fun j q hj _ => .inl ⟨hidx j q hj, hall j (hidx j q hj)⟩) hJ (fun q hq _ => by rw [hps] at hq; exact hq) (by rw [hps]; exact h)
    · refine (List.Sublist.append_left ?_ _)
      exact (List.sublist_append_right _ _).trans (List.sublist_append_right _ _)

theorem TQ_QD {H1 H' : Hp} (hH : ∀ w, SH B w0 w H1 → SH B w0 w H') : TQ (bodyQD N D B w0 H') N D B w0 L H1 .normal := fun _ _ hf hs => ⟨rfl, hf.size, hf.defers, hH _ hs⟩
end
end Go.Eng
/- The engine, part 13: drawn regions in which one extraction may come late: behind the store that opens the tail. -/
namespace Go.Eng
open Go Go.RowKit

def lateOk (l : List Oper) (T j : Nat) : Bool := match l[j]?, l[T]? with
  | some oj, some oT => (match oj.op, oj.guard, oj.dst with
    | .extract _ _, none, some dj => (match oT.op, oT.guard, oT.dst with
      | .store _ _ _, none, none => !(oT.looksAt l.toArray).contains dj
      | _, _, _ => false)
    | _, _, _ => false)
  | _, _ => false
def drawOk3 (l : List Oper) (T j : Nat) : Bool :=
  Nat.blt T l.length && Nat.blt j T && (l.all fun o => plainOp o.op) &&
  ((List.range l.length).all fun i => (depsL l.toArray i).all fun k => Nat.blt k i) &&
  (let ds := (l.take T).map (·.dst)
   (List.range T).all fun i => (List.range T).all fun j =>
     (match ds[j]?, l[i]? with
      | some (some d), some o => !(o.looksAt l.toArray).contains d || (depsL l.toArray i).contains j || (reachN l.toArray l.length (depsL l.toArray j)).contains i
      | _, _ => true) && (Nat.beq i j || !(ds[i]? == ds[j]?))) &&
  ((List.range l.length).all fun i => Nat.blt i T || (let R := reachN l.toArray l.length (depsL l.toArray i); (List.range i).all fun k => (Nat.beq i T && Nat.beq k j) || R.contains k)) && lateOk l T j
structure DrawOK3 (l : List Oper) (T j : Nat) : Prop where
  hT : T < l.length
  hj : j < T
  plain : ∀ o ∈ l, plainOp o.op = true
  back : ∀ i, i < l.length → ∀ k ∈ depsL l.toArray i, k < i
  look : ∀ i j d o oj, i < T → j < T → l[j]? = some oj → oj.dst = some d → l[i]? = some o → d ∈ o.looksAt l.toArray → j ∈ depsL l.toArray i ∨ i ∈ reachN l.toArray l.length (depsL l.toArray j)
  dist : ∀ i j oi oj, i < T → j < T → i ≠ j → l[i]? = some oi → l[j]? = some oj → oi.dst ≠ oj.dst
  tail : ∀ i, T ≤ i → i < l.length → ∀ k, k < i → (i = T ∧ k = j) ∨ k ∈ reachN l.toArray l.length (depsL l.toArray i)
  late : ∃ dj x n ty pos aft t y z ty2 pos2 aft2, l[j]? = some ⟨some dj, .extract x n, ty, pos, aft, none⟩ ∧ l[T]? = some ⟨none, .store t y z, ty2, pos2, aft2, none⟩ ∧ dj ∉ (⟨none, .store t y z, ty2, pos2, aft2, none⟩ : Oper).looksAt l.toArray
theorem late_spec {l : List Oper} {T j : Nat} (h : lateOk l T j = true) : ∃ dj x n ty pos aft t y z ty2 pos2 aft2, l[j]? = some ⟨some dj, .extract x n, ty, pos, aft, none⟩ ∧ l[T]? = some ⟨none, .store t y z, ty2, pos2, aft2, none⟩ ∧ dj ∉ (⟨none, .store t y z, ty2, pos2, aft2, none⟩ : Oper).looksAt l.toArray := by
  unfold lateOk at h
  split at h
  · rename_i oj oT h1 h2
    obtain ⟨d1, op1, ty1, pos1, aft1, g1⟩ := oj
    obtain ⟨d2, op2, ty2, pos2, aft2, g2⟩ := oT
    simp only at h
    split at h
    · split at h
      · rename_i dj _ _ _ _ _ _ _
        subst_vars
        refine ⟨_, _, _, _, _, _, _, _, _, _, _, _, h1, h2, fun hm => ?_⟩
        rw [List.contains_iff_mem.2 hm] at h; cases h
      · cases h
    · cases h
  · cases h
theorem drawOk3_spec {l : List Oper} {T j : Nat} (h : drawOk3 l T j = true) : DrawOK3 l T j := by
  simp only [drawOk3, Bool.and_eq_true] at h
  obtain ⟨⟨⟨⟨⟨⟨h1, h1'⟩, h2⟩, h3⟩, h4⟩, h5⟩, h6⟩ := h
  refine ⟨by simpa using h1, by simpa using h1', fun o ho => List.all_eq_true.1 h2 o ho, fun i hi k hk => ?_, fun i j d o oj hi hj hoj hd ho hlk => ?_, fun i j oi oj hi hj hne hoi hoj => ?_, fun i hi hil k hk => ?_, late_spec h6⟩
  · have := List.all_eq_true.1 (List.all_eq_true.1 h3 i (List.mem_range.2 hi)) k hk
    simpa using this
  · have := List.all_eq_true.1 (List.all_eq_true.1 h4 i (List.mem_range.2 hi)) j (List.mem_range.2 hj)
    rw [Bool.and_eq_true] at this
    have h6 := this.1
    have e1 : ((l.take T).map (·.dst))[j]? = some (some d) := by
      rw [List.getElem?_map, List.getElem?_take, if_pos hj, hoj, Option.map_some, hd]
    simp only [e1, ho, Bool.or_eq_true, Bool.not_eq_true'] at h6
    rcases h6 with (h6 | h6) | h6
    · exfalso
      have : (o.looksAt l.toArray).contains d = true := List.contains_iff_mem.2 hlk
      rw [this] at h6; cases h6
    · exact .inl (List.contains_iff_mem.1 h6)
    · exact .inr (List.contains_iff_mem.1 h6)
  · have := List.all_eq_true.1 (List.all_eq_true.1 h4 i (List.mem_range.2 hi)) j (List.mem_range.2 hj)
    rw [Bool.and_eq_true] at this
    have h6 := this.2
    rw [Bool.or_eq_true] at h6
    rcases h6 with h6 | h6
    · exact absurd (Nat.eq_of_beq_eq_true h6) hne
    · intro e
      have e1 : ((l.take T).map (·.dst))[i]? = some oi.dst := by
        rw [List.getElem?_map, List.getElem?_take, if_pos hi, hoi, Option.map_some]
      have e2 : ((l.take T).map (·.dst))[j]? = some oj.dst := by
        rw [List.getElem?_map, List.getElem?_take, if_pos hj, hoj, Option.map_some]
      rw [e1, e2, e] at h6
      simp at h6
  · have := List.all_eq_true.1 h5 i (List.mem_range.2 hil)
    rw [Bool.or_eq_true] at this
    rcases this with h | h
    · have : i < T := by simpa using h
      omega
    · have h7 := List.all_eq_true.1 h k (List.mem_range.2 hk)
      rw [Bool.or_eq_true, Bool.and_eq_true] at h7
      rcases h7 with h7 | h7
      · exact .inl ⟨Nat.eq_of_beq_eq_true h7.1, Nat.eq_of_beq_eq_true h7.2⟩
      · exact .inr (List.contains_iff_mem.1 h7)

section
variable {r : Option Nat} {P : Program} {Q : Exit → Act → World → Prop} {N : Nat} {D : List Deferred} {B : Nat} {w0 : World} {L : Env} {H : Hp} {ops : Array Oper} {rest : List Oper}
/-- The tail: one order alone. -/
theorem wpAny_tail3 {l : List Oper} {T : Nat} (hback : ∀ i, i < l.length → ∀ k ∈ depsL l.toArray i, k < i) (htail : ∀ i, T < i → i < l.length → ∀ k, k < i → k ∈ reachN l.toArray l.length (depsL l.toArray i)) : ∀ (fuel k : Nat) (listed : Array Bool) (a : Act) (w : World), listed.size = l.length → (∀ i, i < l.length → listed.getD i true = decide (i < k)) → T ≤ k → fuel + k = l.length →
    wpListIn (FW r) 0 P l.toArray Q (l.drop k) a w → wpAnyIn (FW r) 0 P .any l.toArray Q fuel listed a w := by
  intro fuel
  induction fuel with
  | zero =>
    intro k listed a w hsz hl hT hk h
    have : k = l.length := by omega
    subst this
    rw [List.drop_length] at h
    refine ⟨List.eq_nil_iff_forall_not_mem.2 fun i hi => ?_, h⟩
    obtain ⟨h1, ⟨o, ho⟩, _⟩ := ready_deps hi
    have hlt : i < l.length := (List.getElem?_eq_some_iff.1 ho).1
    rw [hl i hlt] at h1
    simp at h1; omega
  | succ fuel ih =>
    intro k listed a w hsz hl hT hk h
    have hclosed : Closed l.toArray listed := by
      intro i hi hli j hj
      have hi' : i < l.length := by omega
      have h1 := hback i hi' j hj
      rw [hl j (by omega)]
      rw [hl i hi'] at hli
      simp at hli ⊢; omega
    refine ⟨fun hnil => ?_, fun i hi => ?_⟩
    · have := ready_nil hsz hback hnil k (by omega)
      rw [hl k (by omega)] at this
      simp at this
    · obtain ⟨h1, ⟨o, ho⟩, h2⟩ := ready_deps hi
      have hlt : i < l.length := (List.getElem?_eq_some_iff.1 ho).1
      rw [hl i hlt] at h1
      have hge : k ≤ i := by simpa using h1
      have hik : i = k := by
        rcases Nat.eq_or_lt_of_le hge with h | h
        · exact h.symm
        · have h3 := htail i (by omega) hlt k h
          have h4 := reach_listed hclosed (by simpa using hsz) l.length (depsL l.toArray i) (fun j hj => (getD_true (h2 j hj)).1) k h3
          rw [hl k (by omega)] at h4
          simp at h4
      subst hik
      have hdrop : l.drop i = o :: l.drop (i + 1) := by
        rw [List.drop_eq_getElem_cons hlt]
        congr 1
        rw [List.getElem?_eq_getElem hlt] at ho
        exact Option.some.inj ho
      rw [hdrop] at h
      have next : ∀ a w, wpListIn (FW r) 0 P l.toArray Q (l.drop (i + 1)) a w → wpAnyIn (FW r) 0 P .any l.toArray Q fuel (listed.setIfInBounds i true) a w := fun a w h => by
        refine ih (i + 1) _ a w (by simpa using hsz) (fun j hj => ?_) (by omega) (by omega) h
        rw [set_getD, hl j hj]
        by_cases e : i = j
        · subst e; simp
        · rw [if_neg e]; congr 1; rw [eq_iff_iff]; omega
      unfold wpOpIn
      simp only [List.getElem?_toArray, ho]
      unfold wpListIn at h
      split
      · rename_i hw
        rw [if_pos hw] at h
        exact Oper.wpIn_mono next h
      · rename_i hw
        rw [if_neg hw] at h
        exact ⟨h.1, next _ _ h.2⟩

/-- What holds of every walk behind all that is ahead of the tail. -/
theorem stage_full {l l2 : List Oper} {Q2 : Exit → Act → World → Prop} {T : Nat} {ps : List (Nat × Post)} (hlen : T = ps.length)
    (hidx : ∀ (i : Nat) q, ps[i]? = some q → i < T) (hnodup : (ps.map (·.1)).Nodup)
    (hK : AllF (fsA [] ps) fun EF G => TL r P Q2 N D B w0 (EF ++ envA L ps) (G ++ H) l.toArray l2) {listed : Array Bool} {a : Act} {w : World}
    (hall : ∀ i, i < T → listed.getD i true = true) (st : Stage l T ps N D B w0 L H listed a w) : wpListIn (FW r) 0 P l.toArray Q2 l2 a w := by
  have hJ : ∀ q ∈ fsA [] ps, ∃ j : Nat, ps[j]? = some (q.1, Post.rel q.2) ∧ listed.getD j true = true := fun q hq => by
    rcases (mem_fsA _ _ _).1 hq with h | ⟨j, hj⟩
    · cases h
    · exact ⟨j, hj, hall j (hidx j _ hj)⟩
  have hJn : ((fsA [] ps).map (·.1)).Nodup := fsA_nodup ps [] (by simpa using hnodup)
  obtain ⟨hσ, Is, R, X, _, _, _, hsh, hdone⟩ := st.heap hJn hJ
  have := AllF_inst (fun k => a.tmps.getD k undef) hσ _ _ hK (fun q hq => by
    obtain ⟨j, hj, hlj⟩ := hJ q hq
    obtain ⟨v, hv, hok⟩ := hdone j _ hj hlj
    have e : a.tmps.getD q.1 undef = v := by simp only at hv; simp [Array.getD_eq_getD_getElem?, hv]
    show q.2 (a.tmps.getD q.1 undef) _
    rw [e]; exact hok)
  refine this a w ⟨st.size, st.defers, fun t v h => ?_⟩ (hsh.sub ?_)
  · have hps : ps.take T = ps := by rw [hlen]; exact List.take_length
    refine st.lookup (i := T) (J := fsA [] ps) (fun j q hj _ => .inl ⟨hidx j q hj, hall j (hidx j q hj)⟩) hJ (fun q hq _ => by rw [hps] at hq; exact hq) (by rw [hps]; exact h)
  · exact (List.sublist_append_right _ H).append_left _

/-- One operation ahead of the tail. -/
theorem stage_op {l : List Oper} {T : Nat} {ps : List (Nat × Post)} {i : Nat} {o : Oper} {K : Act → World → Prop} (hLN : ∀ k v, lk L k = some v → k < N)
    (hplain0 : ∀ o ∈ l, plainOp o.op = true) (hback : ∀ i, i < l.length → ∀ k ∈ depsL l.toArray i, k < i)
    (hlook : ∀ i j d o oj, i < T → j < T → l[j]? = some oj → oj.dst = some d → l[i]? = some o → d ∈ o.looksAt l.toArray → j ∈ depsL l.toArray i ∨ i ∈ reachN l.toArray l.length (depsL l.toArray j))
    (hpl : ∀ i, i < T → ∃ o q, l[i]? = some o ∧ ps[i]? = some q ∧ o.dst = some q.1 ∧ q.1 < N ∧ ObR r P N D B w0 H l.toArray o q (envA L (ps.take i)) (fsA [] (ps.take i)))
    (hidx : ∀ (i : Nat) q, ps[i]? = some q → i < T) (huniq : ∀ (i j : Nat) q p, ps[i]? = some q → ps[j]? = some p → q.1 = p.1 → i = j) (hnodup : (ps.map (·.1)).Nodup)
    {listed : Array Bool} {a : Act} {w : World} (hcl : Closed l.toArray listed) (hsz : listed.size = l.length) (hun : listed.getD i true = false) (ho : l[i]? = some o) (hil : i < l.length) (hdeps : ∀ k ∈ depsL l.toArray i, listed.getD k false = true) (hiT : i < T)
    (st : Stage l T ps N D B w0 L H listed a w) (hKK : ∀ v w', Stage l T ps N D B w0 L H (listed.setIfInBounds i true) (a.put o.dst v) w' → K (a.put o.dst v) w') : wpOpIn (FW r) 0 P l.toArray Q i K a w := by
  obtain ⟨o', q, ho', hq, hdst, hdN, hob⟩ := hpl i hiT
  rw [ho] at ho'
  cases ho'
  -- what it looks at has been written in turn
  have hturn : ∀ t ∈ o.looksAt l.toArray, ∀ (j : Nat) p, ps[j]? = some p → p.1 = t → (j < i ∧ listed.getD j true = true) ∨ (i < j ∧ listed.getD j true = false) := by
    intro t ht j p hp hpt
    obtain ⟨oj, pj, h1, h2, h3, _⟩ := hpl j (hidx j p hp)
    rw [hp] at h2
    cases h2
    have hj := hlook i j t o oj hiT (hidx j p hp) h1 (by rw [h3, hpt]) ho ht
    rcases hj with hj | hj
    · exact .inl ⟨hback i hil j hj, (getD_true (hdeps j hj)).1⟩
    · have hjl : j < l.length := by
        obtain ⟨oj, _, h1, _⟩ := hpl j (hidx j p hp)
        exact (List.getElem?_eq_some_iff.1 h1).1
      refine .inr ⟨reach_lt hback l.length _ j (fun k hk => hback j hjl k hk) i hj (Nat.le_of_lt hjl), ?_⟩
      cases hlj : listed.getD j true with
      | false => rfl
      | true =>
        have h4 := reach_listed hcl (by simpa using hsz) l.length (depsL l.toArray j) (fun k hk => hcl j (by omega) hlj k hk) i hj
        rw [h4] at hun; cases hun
  -- the facts that it needs
  have hJ : ∀ f ∈ fltF l.toArray o (fsA [] (ps.take i)), ∃ j : Nat, ps[j]? = some (f.1, Post.rel f.2) ∧ listed.getD j true = true := by
    intro f hf
    obtain ⟨h1, h2⟩ := List.mem_filter.1 hf
    rcases (mem_fsA _ _ _).1 h1 with h | ⟨j, hj⟩
    · cases h
    · rw [List.getElem?_take] at hj
      split at hj
      · rename_i hji
        refine ⟨j, hj, ?_⟩
        rcases hturn f.1 (List.contains_iff_mem.1 h2) j _ hj rfl with h | h
        · exact h.2
        · omega
      · cases hj
  have hJn : ((fltF l.toArray o (fsA [] (ps.take i))).map (·.1)).Nodup := by
    have h1 : ((fsA [] (ps.take i)).map (·.1)).Nodup := fsA_nodup _ [] (by
      simp only [List.map_nil, List.nil_append]
      rw [List.map_take]
      exact (List.take_sublist _ _).nodup hnodup)
    exact ((List.filter_sublist (l := fsA [] (ps.take i)) (p := fun q => (o.looksAt l.toArray).contains q.1)).map (fun q : Fact => q.1)).nodup h1
  obtain ⟨hσ, Is, R, X, hIn, hIs, hperm, hsh, hdone⟩ := st.heap hJn hJ
  have hva : ∀ (j : Nat) p, ps[j]? = some p → listed.getD j true = true → ∃ v, a.tmps[p.1]? = some v ∧ a.tmps.getD p.1 undef = v ∧ p.2.ok v (hσ p.1) := by
    intro j p hp hlj
    obtain ⟨v, h1, h2⟩ := hdone j p hp hlj
    exact ⟨v, h1, by simp [Array.getD_eq_getD_getElem?, h1], h2⟩
  have hTL := AllF_inst (fun k => a.tmps.getD k undef) hσ _ _ hob (fun f hf => by
    obtain ⟨j, hj, hlj⟩ := hJ f hf
    obtain ⟨v, _, e, hok⟩ := hva j _ hj hlj
    show f.2 (a.tmps.getD f.1 undef) _
    rw [show a.tmps.getD f.1 undef = v from e]; exact hok) (R.flatMap hσ ++ X)
  -- the frame of its own walk
  obtain ⟨EE, hEE⟩ : ∃ EE, EE = (List.map (fun f : Fact => (f.1, a.tmps.getD f.1 undef)) (fltF l.toArray o (fsA [] (ps.take i)))) ++ envA L (ps.take i) := ⟨_, rfl⟩
  rw [← hEE] at hTL
  have hkN : ∀ k v, lk EE k = some v → k < N := by
    intro k v h
    rw [hEE, lk_append] at h
    cases hl : lk (List.map (fun f : Fact => (f.1, a.tmps.getD f.1 undef)) (fltF l.toArray o (fsA [] (ps.take i)))) k with
    | some u =>
      obtain ⟨_, f, hf, rfl⟩ := lk_map_some (va := fun k => a.tmps.getD k undef) hl
      obtain ⟨j, hj, _⟩ := hJ f hf
      obtain ⟨_, p, _, h2, _, h4, _⟩ := hpl j (hidx j _ hj)
      rw [hj] at h2; cases h2; exact h4
    | none =>
      rw [hl] at h
      rcases lk_envA _ _ _ _ h with ⟨j, c, h1, _⟩ | ⟨h1, _⟩
      · rw [List.getElem?_take] at h1
        split at h1
        · obtain ⟨_, p, _, h2, _, h4, _⟩ := hpl j (hidx j _ h1)
          rw [h1] at h2; cases h2; exact h4
        · cases h1
      · exact hLN k v h1
  let b : Act := { tmps := Array.ofFn (n := N) (fun k => match lk EE k with | some v => v | none => a.tmps.getD k undef), defers := a.defers }
  have hbget : ∀ k, k < N → b.tmps[k]? = some (match lk EE k with | some v => v | none => a.tmps.getD k undef) := by
    intro k hk
    simp [b, hk]
  have hFr : Fr N D EE b := ⟨by simp [b], st.defers, fun k v hk => by rw [hbget k (hkN k v hk), hk]⟩
  have hagree : ∀ t ∈ o.looksAt l.toArray, b.tmps.getD t undef = a.tmps.getD t undef := by
    intro t ht
    rcases Nat.lt_or_ge t N with htN | htN
    · rw [Array.getD_eq_getD_getElem?, hbget t htN]
      cases hl : lk EE t with
      | none => rfl
      | some v =>
        have := st.lookup (i := i) (J := fltF l.toArray o (fsA [] (ps.take i))) (t := t) (v := v) (hturn t ht) hJ
          (fun f hf hft => List.mem_filter.2 ⟨hf, List.contains_iff_mem.2 (hft ▸ ht)⟩) (by rw [hEE] at hl; exact hl)
        simp [this]
    · have h1 : b.tmps[t]? = none := by simp [b]; exact htN
      have h2 : a.tmps[t]? = none := by simp [st.size]; exact htN
      simp [Array.getD_eq_getD_getElem?, h1, h2]
  have hw0 := hTL b w hFr hsh
  -- what comes of it
  have hnext : ∀ (v : Value) (w' : World) (h : Hp), q.2.ok v h → SH B w0 w' (h ++ ((fltF l.toArray o (fsA [] (ps.take i))).flatMap (fun q => hσ q.1) ++ ((R.flatMap hσ ++ X) ++ H))) →
      K (a.put o.dst v) w' := by
    intro v w' h hok hsh'
    have hilt : i < listed.size := by omega
    refine hKK v w' ?_
    · have hq1 : ∀ t, t ≠ q.1 → (a.put o.dst v).tmps[t]? = a.tmps[t]? := by
        intro t ht
        rw [hdst]
        simp [Act.put, Array.getElem?_setIfInBounds_ne (Ne.symm ht)]
      have hq2 : (a.put o.dst v).tmps[q.1]? = some v := by
        rw [hdst]
        simp [Act.put, st.size, hdN]
      refine ⟨by rw [hdst]; simp [Act.put, st.size], by rw [hdst]; exact st.defers, fun t u ht hno => ?_, ?_⟩
      · have hne : t ≠ q.1 := by
          rintro rfl
          have := hno i q hq rfl
          rw [set_getD, if_pos rfl] at this
          cases this
        rw [hq1 t hne]
        refine st.base t u ht (fun j p hp hpt => ?_)
        have := hno j p hp hpt
        rw [set_getD] at this
        split at this
        · cases this
        · exact this
      · have hqI : q.1 ∉ Is := by
          intro hm
          obtain ⟨j, p, hp, hpq, hlj⟩ := (hIs _).1 hm
          have := huniq j i p q hp hq hpq
          subst this
          rw [hlj] at hun; cases hun
        refine ⟨fun d => if d = q.1 then h else hσ d, q.1 :: Is, X, List.nodup_cons.2 ⟨hqI, hIn⟩, fun d => ?_, ?_, fun j p hp hlj => ?_⟩
        · rw [List.mem_cons, hIs]
          constructor
          · rintro (rfl | ⟨j, p, hp, hpd, hlj⟩)
            · exact ⟨i, q, hq, rfl, by rw [set_getD, if_pos rfl]⟩
            · refine ⟨j, p, hp, hpd, ?_⟩
              rw [set_getD]; split
              · rfl
              · exact hlj
          · rintro ⟨j, p, hp, hpd, hlj⟩
            by_cases e : i = j
            · subst e
              rw [hq] at hp; cases hp
              exact .inl hpd.symm
            · rw [set_getD, if_neg e] at hlj
              exact .inr ⟨j, p, hp, hpd, hlj⟩
        · refine hsh'.perm ?_
          rw [List.flatMap_cons, if_pos rfl, flatMap_congr' (g := hσ) (fun d hd => by
            have hne : d ≠ q.1 := by rintro rfl; exact hqI hd
            rw [if_neg hne])]
          have := (hperm.append_right (X ++ H))
          rw [List.append_assoc]
          refine List.Perm.append_left h ?_
          simpa [List.append_assoc] using this
        · by_cases e : i = j
          · subst e
            rw [hq] at hp; cases hp
            exact ⟨v, hq2, by simpa using hok⟩
          · rw [set_getD, if_neg e] at hlj
            obtain ⟨u, h1, h2⟩ := hdone j p hp hlj
            have hne : p.1 ≠ q.1 := fun e' => e (huniq i j q p hq hp e'.symm)
            exact ⟨u, by rw [hq1 _ hne]; exact h1, by simpa [hne] using h2⟩
  have hread : ∀ (v : Value) (w' : World), wpListIn (FW r) 0 P l.toArray (QR D B w0 q.1 q.2.ok ((fltF l.toArray o (fsA [] (ps.take i))).flatMap (fun q => hσ q.1) ++ ((R.flatMap hσ ++ X) ++ H))) [] (b.put o.dst v) w' →
      K (a.put o.dst v) w' := by
    rintro v w' ⟨_, _, v', h, hv', hok, hsh'⟩
    have : v' = v := by
      rw [hdst] at hv'
      have hsz' : b.tmps.size = N := by simp [b]
      simp [Act.put, hsz', hdN] at hv'
      exact hv'.symm
    subst this
    exact hnext v' w' h hok hsh'
  have hplain := hplain0 o (List.mem_of_getElem? ho)
  have hnd : ∀ c, o.op ≠ .defer c := fun c e => by rw [e] at hplain; cases hplain
  have hns : ∀ cs bb, o.op ≠ .select cs bb := fun c bb e => by rw [e] at hplain; cases hplain
  have hexec : execOp b.eval o = execOp a.eval o := execOp_congr o hns (eval_congr hagree)
  unfold wpOpIn
  simp only [List.getElem?_toArray, ho]
  unfold wpListIn at hw0
  rw [wanted_congr hagree] at hw0
  split
  · rename_i hwant
    rw [if_pos hwant] at hw0
    refine ⟨fun _ _ => trivial, ?_⟩
    have h2 := hw0.2
    rw [semAt_any hnd, hexec] at h2
    rw [semAt_any hnd]
    generalize (execOp a.eval o).run P w = res at *
    cases res with
    | ok x w' =>
      cases x <;> simp only [Oper.uponIn] at h2 ⊢
      case value v => exact hread v w' h2
      case skip => exact hread _ w' h2
      case enter f args =>
        refine ⟨h2.1, CallsIn.mono h2.2 fun e w'' he => ?_⟩
        cases e with
        | returned v => exact hread v w'' he
        | panicked ch => cases he.1
        | outgrown => obtain ⟨_, _, he⟩ := he; cases he.1
      case row row args => exact ⟨h2.1, RowsIn.mono h2.2 fun v w'' he => hread v w'' he⟩
      case round lp f tm asg bd =>
        refine ⟨h2.1, RoundIn.mono h2.2 fun e w'' he => ?_⟩
        cases e with
        | returned v => exact hread v w'' he
        | panicked ch => cases he.1
        | outgrown => obtain ⟨_, _, he⟩ := he; cases he.1
      case defer dd =>
        exfalso
        have h3 : dd :: b.defers = D := by
          have := h2.2.1
          rw [hdst] at this
          exact this
        have h4 : b.defers = D := hFr.defers
        rw [h4] at h3
        have := congrArg List.length h3
        simp at this
    | halt x w' =>
      cases x <;> simp only [Oper.uponIn] at h2 ⊢
      case panic v => cases h2.1
  · rename_i hwant
    rw [if_neg hwant] at hw0
    exact ⟨fun _ _ => trivial, hread _ _ hw0.2⟩

/-- An end that is no panic. -/
def endN : Exit → Act → World → Prop := fun e _ _ => e = .normal

/-- The store comes ahead of the late extraction. -/
theorem wpAny_late {l : List Oper} {T j : Nat} {ps : List (Nat × Post)} (ok : DrawOK3 l T j) (hLN : ∀ k v, lk L k = some v → k < N) (hlen : T = ps.length)
    (hpl : ∀ i, i < T → ∃ o q, l[i]? = some o ∧ ps[i]? = some q ∧ o.dst = some q.1 ∧ q.1 < N ∧ ObR r P N D B w0 H l.toArray o q (envA L (ps.take i)) (fsA [] (ps.take i)))
    (hidx : ∀ (i : Nat) q, ps[i]? = some q → i < T) (huniq : ∀ (i j : Nat) q p, ps[i]? = some q → ps[j]? = some p → q.1 = p.1 → i = j) (hnodup : (ps.map (·.1)).Nodup)
    (hK : AllF (fsA [] ps) fun EF G => TL r P Q N D B w0 (EF ++ envA L ps) (G ++ H) l.toArray (l.drop T))
    (hS : AllF (fsA [] ps) fun EF G => TL r P endN N D B w0 (EF ++ envA L ps) (G ++ H) l.toArray ((l.drop T).take 1))
    {fuel : Nat} {listed : Array Bool} {a : Act} {w : World} (hsz : listed.size = l.length) (hf : fuel + T = l.length) (hall : ∀ i, i < T → i ≠ j → listed.getD i true = true) (hto : ∀ i, T ≤ i → i < l.length → listed.getD i true = false) (hunj : listed.getD j true = false)
    (hcl : Closed l.toArray listed) (hdT : ∀ k ∈ depsL l.toArray T, listed.getD k true = true) (st : Stage l T ps N D B w0 L H listed a w) : wpOpIn (FW r) 0 P l.toArray Q T (wpAnyIn (FW r) 0 P .any l.toArray Q fuel (listed.setIfInBounds T true)) a w := by
  obtain ⟨dj, x, n, ty, pos, aft, t, y, z, ty2, pos2, aft2, hoj, hoT, hnl⟩ := ok.late
  have hT := ok.hT
  have hj := ok.hj
  have hjl : j < l.length := by omega
  -- the late one, done now
  have h1 := stage_op (r := r) (P := P) (Q := fun _ _ _ => False) (K := fun a1 w1 => Stage l T ps N D B w0 L H (listed.setIfInBounds j true) a1 w1) hLN ok.plain ok.back ok.look hpl hidx huniq hnodup hcl hsz hunj hoj hjl (fun k hk => by
    have hkj := ok.back j hjl k hk
    have := hall k (by omega) (by omega)
    have hk2 : k < listed.size := by omega
    simpa [Array.getD_eq_getD_getElem?, hk2] using this) hj st (fun _ _ h => h)
  unfold wpOpIn at h1
  simp only [List.getElem?_toArray, hoj, Region.wanted, if_true] at h1
  have h2 := h1.2
  obtain ⟨v, hv⟩ : ∃ v, ∀ w : World, (execOp a.eval ⟨some dj, .extract x n, ty, pos, aft, none⟩).run P w = .ok (.value v) w := by
    rw [semAt_any (by simp)] at h2
    simp only [execOp, Instr.extract] at h2 ⊢
    cases hx : a.eval x <;> simp only [hx] at h2 ⊢ <;> first | (simp [Oper.uponIn, stuck] at h2; done) | skip
    rename_i vs
    cases hn : vs[n]? with
    | none => simp [hn, Oper.uponIn, stuck] at h2
    | some v => exact ⟨v, fun w => by simp⟩
  have hst' : Stage l T ps N D B w0 L H (listed.setIfInBounds j true) (a.put (some dj) v) w := by
    rw [semAt_any (by simp), hv] at h2
    exact h2
  have hall' : ∀ i, i < T → (listed.setIfInBounds j true).getD i true = true := fun i hi => by
    rw [set_getD]; split
    · rfl
    · rename_i h; exact hall i hi (fun e => h e.symm)
  have hdrop : l.drop T = ⟨none, .store t y z, ty2, pos2, aft2, none⟩ :: l.drop (T + 1) := by
    rw [List.drop_eq_getElem_cons hT]
    congr 1
    rw [List.getElem?_eq_getElem hT] at hoT
    exact Option.some.inj hoT
  have hfull := stage_full hlen hidx hnodup hK hall' hst'
  have hsafe := stage_full hlen hidx hnodup hS hall' hst'
  rw [hdrop] at hfull hsafe
  simp only [List.take_succ_cons, List.take_zero] at hsafe
  unfold wpListIn at hfull hsafe
  rw [if_pos (by simp [Region.wanted])] at hfull hsafe
  -- the store does not see the late one
  have hev : ∀ q ∈ (Op.store t y z).operands, (a.put (some dj) v).eval q = a.eval q := by
    refine eval_congr (ops := l.toArray) (o := ⟨none, .store t y z, ty2, pos2, aft2, none⟩) (fun k hk => ?_)
    have hne : dj ≠ k := by rintro rfl; exact hnl hk
    simp [Act.put, Array.getD_eq_getD_getElem?, Array.getElem?_setIfInBounds_ne hne]
  have hexec : execOp (a.put (some dj) v).eval ⟨none, .store t y z, ty2, pos2, aft2, none⟩ = execOp a.eval ⟨none, .store t y z, ty2, pos2, aft2, none⟩ := execOp_congr _ (by simp) hev
  obtain ⟨w2, hw2⟩ : ∃ w2, (execOp a.eval ⟨none, .store t y z, ty2, pos2, aft2, none⟩).run P w = .ok .skip w2 := by
    have h3 := hsafe.2
    rw [semAt_any (by simp), hexec] at h3
    simp only [execOp] at h3 ⊢
    simp only [Sem.run_bind] at h3 ⊢
    generalize (Instr.storeAt t (a.eval y) (a.eval z)).run P w = res at h3 ⊢
    cases res with
    | ok u w2 => exact ⟨w2, rfl⟩
    | halt x w2 => cases x <;> simp only [Result.andThen, Oper.uponIn] at h3 <;> first | (exact h3.elim) | (cases h3)
  have hfull2 : wpListIn (FW r) 0 P l.toArray Q (l.drop (T + 1)) (a.put (some dj) v) w2 := by
    have h3 := hfull.2
    rw [semAt_any (by simp), hexec, hw2] at h3
    exact h3
  unfold wpOpIn
  simp only [List.getElem?_toArray, hoT, Region.wanted, if_true]
  refine ⟨fun _ _ => trivial, ?_⟩
  rw [semAt_any (by simp), hw2]
  show wpAnyIn (FW r) 0 P .any l.toArray Q fuel (listed.setIfInBounds T true) a w2
  have hget : ∀ i, i < l.length → (listed.setIfInBounds T true).getD i true = decide (i < T + 1 ∧ i ≠ j) := fun i hi => by
    rw [set_getD]
    by_cases e : T = i
    · subst e
      rw [if_pos rfl, decide_eq_true (by omega)]
    · rw [if_neg e]
      rcases Nat.lt_or_ge i T with h | h
      · by_cases ej : i = j
        · subst ej
          rw [hunj, decide_eq_false (by omega)]
        · rw [hall i h ej, decide_eq_true (by omega)]
      · rw [hto i h hi, decide_eq_false (by omega)]
  have hclT : Closed l.toArray (listed.setIfInBounds T true) := by
    intro i hi hli k hk
    have hi' : i < l.length := by simp at hi; omega
    rw [hget i hi'] at hli
    have hli' := of_decide_eq_true hli
    by_cases e : T = i
    · subst e
      have hkT := ok.back T hT k hk
      rw [hget k (by omega)]
      refine decide_eq_true ⟨by omega, fun ej => ?_⟩
      subst ej
      have := hdT k hk
      rw [hunj] at this; cases this
    · have := hcl i (by simp at hi; omega) (hall i (by omega) hli'.2) k hk
      rw [set_getD]; split
      · rfl
      · exact this
  cases fuel with
  | zero => omega
  | succ fuel =>
    refine ⟨fun hnil => ?_, fun i hi => ?_⟩
    · have := ready_nil (by simpa using hsz) ok.back hnil j hjl
      rw [hget j hjl] at this
      simp at this
    · obtain ⟨hun, ⟨o, ho⟩, hdeps⟩ := ready_deps hi
      have hil : i < l.length := (List.getElem?_eq_some_iff.1 ho).1
      rw [hget i hil] at hun
      have hun' := of_decide_eq_false hun
      have hij : i = j := by
        by_cases e : i = j
        · exact e
        · exfalso
          have hi2 : T + 1 ≤ i := by omega
          rcases ok.tail i (by omega) hil j (by omega) with ⟨h, _⟩ | h
          · omega
          · have h4 := reach_listed hclT (by simpa using hsz) l.length (depsL l.toArray i) (fun k hk => (getD_true (hdeps k hk)).1) j h
            rw [hget j hjl] at h4
            simp at h4
      subst hij
      rw [hoj] at ho
      cases ho
      unfold wpOpIn
      simp only [List.getElem?_toArray, hoj, Region.wanted, if_true]
      refine ⟨fun _ _ => trivial, ?_⟩
      rw [semAt_any (by simp), hv]
      show wpAnyIn (FW r) 0 P .any l.toArray Q fuel ((listed.setIfInBounds T true).setIfInBounds i true) (a.put (some dj) v) w2
      refine wpAny_tail3 (T := T) ok.back (fun i' h1 h2 k hk => ?_) fuel (T + 1) _ _ _ (by simpa using hsz) (fun i' hi' => ?_) (by omega) (by omega) hfull2
      · rcases ok.tail i' (by omega) h2 k hk with ⟨h, _⟩ | h
        · omega
        · exact h
      · rw [set_getD]
        by_cases e : i = i'
        · subst e; rw [if_pos rfl, decide_eq_true (by omega)]
        · rw [if_neg e, hget i' hi']
          congr 1
          rw [eq_iff_iff]
          constructor
          · exact fun h => h.1
          · exact fun h => ⟨h, fun e' => e e'.symm⟩

theorem wpAny_done3 {l : List Oper} {T j : Nat} {ps : List (Nat × Post)} (ok : DrawOK3 l T j) (hlen : T = ps.length)
    (hidx : ∀ (i : Nat) q, ps[i]? = some q → i < T) (hnodup : (ps.map (·.1)).Nodup)
    (hK : AllF (fsA [] ps) fun EF G => TL r P Q N D B w0 (EF ++ envA L ps) (G ++ H) l.toArray (l.drop T)) {listed : Array Bool} {a : Act} {w : World} (hsz : listed.size = l.length)
    (hall : ∀ i, i < T → listed.getD i true = true) (hto : ∀ i, T ≤ i → i < l.length → listed.getD i true = false) (st : Stage l T ps N D B w0 L H listed a w) (fuel : Nat) (hf : fuel + T = l.length) :
    wpAnyIn (FW r) 0 P .any l.toArray Q fuel listed a w := by
  have hj := ok.hj
  refine wpAny_tail3 (T := T) ok.back (fun i h1 h2 k hk => ?_) fuel T listed a w hsz (fun i hi => ?_) (Nat.le_refl _) hf (stage_full hlen hidx hnodup hK hall st)
  · rcases ok.tail i (by omega) h2 k hk with ⟨h, _⟩ | h
    · omega
    · exact h
  · rcases Nat.lt_or_ge i T with h | h
    · rw [hall i h]; simp [h]
    · rw [hto i h hi]; simp; omega

/-- The stages of a drawn order, to its tail. -/
theorem wpAny_stage3 {l : List Oper} {T j : Nat} {ps : List (Nat × Post)} (ok : DrawOK3 l T j) (hLN : ∀ k v, lk L k = some v → k < N) (hlen : T = ps.length)
    (hps : ∀ i o, (l.take T)[i]? = some o → ∃ q, ps[i]? = some q ∧ o.dst = some q.1 ∧ q.1 < N ∧ ObR r P N D B w0 H l.toArray o q (envA L (ps.take i)) (fsA [] (ps.take i)))
    (hK : AllF (fsA [] ps) fun EF G => TL r P Q N D B w0 (EF ++ envA L ps) (G ++ H) l.toArray (l.drop T))
    (hS : AllF (fsA [] ps) fun EF G => TL r P endN N D B w0 (EF ++ envA L ps) (G ++ H) l.toArray ((l.drop T).take 1)) :
    ∀ (fuel : Nat) (listed : Array Bool) (a : Act) (w : World), listed.size = l.length → (listed.toList.count false) = fuel → Closed l.toArray listed → (∀ i, T ≤ i → i < l.length → listed.getD i true = false) →
      Stage l T ps N D B w0 L H listed a w → wpAnyIn (FW r) 0 P .any l.toArray Q fuel listed a w := by
  have hpl : ∀ i, i < T → ∃ o q, l[i]? = some o ∧ ps[i]? = some q ∧ o.dst = some q.1 ∧ q.1 < N ∧ ObR r P N D B w0 H l.toArray o q (envA L (ps.take i)) (fsA [] (ps.take i)) := by
    intro i hi
    have hil : i < l.length := Nat.lt_trans hi ok.hT
    have : (l.take T)[i]? = some l[i] := by rw [List.getElem?_take, if_pos hi, List.getElem?_eq_getElem hil]
    obtain ⟨q, h1, h2, h3, h4⟩ := hps i _ this
    exact ⟨l[i], q, List.getElem?_eq_getElem hil, h1, h2, h3, h4⟩
  have hidx : ∀ (i : Nat) q, ps[i]? = some q → i < T := fun i q h => by rw [hlen]; exact (List.getElem?_eq_some_iff.1 h).1
  have huniq : ∀ (i j : Nat) q p, ps[i]? = some q → ps[j]? = some p → q.1 = p.1 → i = j := by
    intro i j q p hi hj e
    by_cases hne : i = j
    · exact hne
    · obtain ⟨oi, qi, h1, h2, h3, _⟩ := hpl i (hidx i q hi)
      obtain ⟨oj, qj, h4, h5, h6, _⟩ := hpl j (hidx j p hj)
      rw [hi] at h2; rw [hj] at h5
      cases h2; cases h5
      exact absurd (by rw [h3, h6, e]) (ok.dist i j oi oj (hidx i _ hi) (hidx j _ hj) hne h1 h4)
  have hnodup : (ps.map (·.1)).Nodup := by
    rw [List.nodup_iff_pairwise_ne, List.pairwise_iff_getElem]
    intro i j hi hj hij e
    rw [List.getElem_map, List.getElem_map] at e
    have hi' : i < ps.length := by simpa using hi
    have hj' : j < ps.length := by simpa using hj
    have := huniq i j _ _ (List.getElem?_eq_getElem hi') (List.getElem?_eq_getElem hj') e
    omega
  intro fuel
  induction fuel with
  | zero =>
    intro listed a w hsz hcnt hcl hto st
    exact (wpAny_done3 ok hlen hidx hnodup hK hsz (fun i hi => by
      cases hc : listed.getD i true with
      | true => rfl
      | false =>
        exfalso
        have hlt : i < listed.size := by have := ok.hT; omega
        have : false ∈ listed.toList := by
          simp [hlt] at hc
          rw [← hc]; exact Array.getElem_mem_toList _
        exact absurd hcnt (by have := List.count_pos_iff.2 this; omega)) hto st 0 (by
      have : T = l.length := by
        rcases Nat.lt_or_ge T l.length with h | h
        · exfalso
          have h1 := hto T (Nat.le_refl _) h
          have hlt : T < listed.size := by omega
          have : false ∈ listed.toList := by
            simp [hlt] at h1
            rw [← h1]; exact Array.getElem_mem_toList _
          exact absurd hcnt (by have := List.count_pos_iff.2 this; omega)
        · have := ok.hT; omega
      omega))
  | succ fuel ih =>
    intro listed a w hsz hcnt hcl hto st
    by_cases hall : ∀ i, i < T → listed.getD i true = true
    · -- the tail begins
      have hf : fuel + 1 + T = l.length := by
        have h1 : ∀ (m : List Bool) (T : Nat), T ≤ m.length → (∀ i, i < T → m[i]? = some true) → (∀ i, T ≤ i → i < m.length → m[i]? = some false) → m.count false + T = m.length := by
          intro m
          induction m with
          | nil => intro T h _ _; simp at h; simp [h]
          | cons x m ihm =>
            intro T hT ht hf
            cases T with
            | zero =>
              have hx : x = false := by have := hf 0 (Nat.le_refl _) (by simp); simpa using this
              have := ihm 0 (Nat.zero_le _) (fun i hi => by omega) (fun i _ hi => by have := hf (i + 1) (by omega) (by simp; omega); simpa using this)
              subst hx
              simp at this ⊢; omega
            | succ T =>
              have hx : x = true := by have := ht 0 (by omega); simpa using this
              have := ihm T (by simpa using hT) (fun i hi => by have := ht (i + 1) (by omega); simpa using this) (fun i hi hil => by have := hf (i + 1) (by omega) (by simp; omega); simpa using this)
              subst hx
              simp at this ⊢; omega
        have := h1 listed.toList T (by have := ok.hT; simp; omega) (fun i hi => by
          have hlt : i < listed.size := by have := ok.hT; omega
          have := hall i hi
          simp [hlt] at this ⊢; exact this) (fun i hi hil => by
          have hlt : i < listed.size := by simpa using hil
          have := hto i hi (by omega)
          simp [hlt] at this ⊢; exact this)
        rw [hcnt] at this
        simp at this; omega
      exact wpAny_done3 ok hlen hidx hnodup hK hsz hall hto st _ hf
    · have hnot : ∃ i, i < T ∧ listed.getD i true = false := by
        refine Classical.byContradiction fun hn => hall fun i hi => ?_
        cases hc : listed.getD i true with
        | true => rfl
        | false => exact absurd ⟨i, hi, hc⟩ hn
      refine ⟨fun hnil => ?_, fun i hi => ?_⟩
      · obtain ⟨i, hiT, hc⟩ := hnot
        have := ready_nil hsz ok.back hnil i (by have := ok.hT; omega)
        rw [this] at hc; cases hc
      · obtain ⟨hun, ⟨o, ho⟩, hdeps⟩ := ready_deps hi
        have hil : i < l.length := (List.getElem?_eq_some_iff.1 ho).1
        by_cases hiT : i < T
        · refine stage_op hLN ok.plain ok.back ok.look hpl hidx huniq hnodup hcl hsz hun ho hil hdeps hiT st (fun v w' st' => ?_)
          have hilt : i < listed.size := by omega
          refine ih _ _ _ (by simpa using hsz) ?_ (hcl.set fun k hk => (getD_true (hdeps k hk)).1) (fun j hj hjl => ?_) st'
          · have e : (listed.setIfInBounds i true).toList = listed.toList.set i true := by simp
            rw [e, List.count_set (by simpa using hilt)]
            have : listed.toList[i]'(by simpa using hilt) = false := by simp [hilt] at hun; simpa using hun
            simp [this, hcnt]
          · rw [set_getD, if_neg (by omega)]; exact hto j hj hjl
        · have hun2 : ∀ k, k < T → listed.getD k true = false → i = T ∧ k = j := fun k hk hck => by
            rcases ok.tail i (by omega) hil k (by omega) with h | h
            · exact h
            · have h4 := reach_listed hcl (by simpa using hsz) l.length (depsL l.toArray i) (fun k hk => (getD_true (hdeps k hk)).1) k h
              rw [h4] at hck; cases hck
          obtain ⟨k0, hk0T, hk0⟩ := hnot
          obtain ⟨rfl, rfl⟩ := hun2 k0 hk0T hk0
          have hall' : ∀ k, k < i → k ≠ k0 → listed.getD k true = true := fun k hk hne => by
            cases hc : listed.getD k true with
            | true => rfl
            | false => exact absurd (hun2 k hk hc).2 hne
          refine wpAny_late ok hLN hlen hpl hidx huniq hnodup hK hS hsz ?_ hall' hto hk0 hcl (fun k hk => (getD_true (hdeps k hk)).1) st
          -- how many are left
          have h1 : ∀ (m : List Bool) (T j : Nat), j < T → T ≤ m.length → (∀ i, i < T → i ≠ j → m[i]? = some true) → m[j]? = some false → (∀ i, T ≤ i → i < m.length → m[i]? = some false) → m.count false + T = m.length + 1 := by
            intro m
            induction m with
            | nil => intro T j h1 h2; simp at h2; omega
            | cons x m ihm =>
              intro T j h1 h2 h3 h4 h5
              cases T with
              | zero => omega
              | succ T =>
                cases j with
                | zero =>
                  simp at h4; subst h4
                  have h6 : ∀ (m : List Bool) (T : Nat), T ≤ m.length → (∀ i, i < T → m[i]? = some true) → (∀ i, T ≤ i → i < m.length → m[i]? = some false) → m.count false + T = m.length := by
                    intro m
                    induction m with
                    | nil => intro T h _ _; simp at h; simp [h]
                    | cons x m ihm =>
                      intro T hT ht hf
                      cases T with
                      | zero =>
                        have hx : x = false := by have := hf 0 (Nat.le_refl _) (by simp); simpa using this
                        have := ihm 0 (Nat.zero_le _) (fun i hi => by omega) (fun i _ hi => by have := hf (i + 1) (by omega) (by simp; omega); simpa using this)
                        subst hx
                        simp at this ⊢; omega
                      | succ T =>
                        have hx : x = true := by have := ht 0 (by omega); simpa using this
                        have := ihm T (by simpa using hT) (fun i hi => by have := ht (i + 1) (by omega); simpa using this) (fun i hi hil => by have := hf (i + 1) (by omega) (by simp; omega); simpa using this)
                        subst hx
                        simp at this ⊢; omega
                  have := h6 m T (by simpa using h2) (fun i hi => by have := h3 (i + 1) (by omega) (by omega); simpa using this) (fun i hi hil => by have := h5 (i + 1) (by omega) (by simp; omega); simpa using this)
                  simp; omega
                | succ j =>
                  have hx : x = true := by have := h3 0 (by omega) (by omega); simpa using this
                  have := ihm T j (by omega) (by simpa using h2) (fun i hi hne => by have := h3 (i + 1) (by omega) (by omega); simpa using this) (by simpa using h4) (fun i hi hil => by have := h5 (i + 1) (by omega) (by simp; omega); simpa using this)
                  subst hx
                  simp at this ⊢; omega
          have hg : ∀ k b, k < l.length → listed.getD k true = b → listed.toList[k]? = some b := fun k b hk h => by
            have hk2 : k < listed.size := by omega
            simp [hk2] at h ⊢; exact h
          have := h1 listed.toList i k0 hk0T (by have := ok.hT; simp; omega) (fun k hk hne => hg k _ (by omega) (hall' k hk hne)) (hg k0 _ (by omega) hk0) (fun k hk hkl => hg k _ (by simp at hkl; omega) (hto k hk (by simp at hkl; omega)))
          rw [hcnt] at this
          simp at this; omega

/-- **A region that draws its order, one extraction of which may come behind the store that opens the tail.** -/
theorem TC_draw3 {id : Nat} {l : List Oper} (T j : Nat) {ps : List (Nat × Post)} (hc : drawOk3 l T j = true) (hm : P.follows .mixedOrders = true) (hPG : PG r P N D B w0 H l.toArray (l.take T) L [] ps)
    (hS : AllF (fsA [] ps) fun EF G => TL r P endN N D B w0 (EF ++ envA L ps) (G ++ H) l.toArray ((l.drop T).take 1))
    (hK : AllF (fsA [] ps) fun EF G => TL r P Q N D B w0 (EF ++ envA L ps) (G ++ H) l.toArray (l.drop T)) : TC r P Q N D B w0 L H (.region id l.toArray true) := by
  intro a w hf hs
  have ok := drawOk3_spec hc
  obtain ⟨hlen, hps⟩ := PG_spec hPG
  have hT : T = ps.length := by rw [← hlen, List.length_take]; have := ok.hT; omega
  refine wpIn_region_any hm ?_
  have hrep : ∀ i, i < l.length → (Array.replicate l.toArray.size false).getD i true = false := fun i hi => by simp [hi]
  refine wpAny_stage3 ok (fun k v h => ?_) hT hps hK hS _ _ a _ (by simp) (by simp) ?_ (fun i _ hi => by simpa using hrep i hi) ⟨hf.size, hf.defers, fun t v h _ => hf.get t v h, fun _ => [], [], [], List.nodup_nil, fun d => ?_, ?_, fun j q hj hl => ?_⟩
  · have := (Array.getElem?_eq_some_iff.1 (hf.get k v h)).1
    rw [hf.size] at this; exact this
  · intro i hi hli
    exfalso
    have h1 : i < l.length := by simpa using hi
    rw [hrep i h1] at hli; cases hli
  · constructor
    · intro h; cases h
    · rintro ⟨j, q, hj, _, hl⟩
      exfalso
      have h1 : j < l.length := by have := (List.getElem?_eq_some_iff.1 hj).1; have := ok.hT; omega
      rw [hrep j h1] at hl; cases hl
  · exact hs.drew
  · exfalso
    have h1 : j < l.length := by have := (List.getElem?_eq_some_iff.1 hj).1; have := ok.hT; omega
    rw [hrep j h1] at hl; cases hl
theorem TQ_endN {H1 : Hp} : TQ endN N D B w0 L H1 .normal := fun _ _ _ _ => rfl
end
end Go.Eng
/- The engine, part 14: new variables in drawn regions, nil checks, slices with bounds, maps with numbers as keys. -/
namespace Go.Eng
open Go Go.RowKit
set_option linter.unusedVariables false
set_option linter.unusedSimpArgs false

class MapP (P : Program) (t : TypeId) (k e : outParam TypeId) : Prop where
  u : P.underlying t = some (.map k e)
class PtrP (P : Program) (t : TypeId) (e : outParam TypeId) : Prop where
  u : P.underlying t = some (.pointer e)
theorem AllF.all (Fs : List Fact) : ∀ (K : Env → Hp → Prop), (∀ E G, K E G) → AllF Fs K := by
  induction Fs with
  | nil => intro K h; exact h _ _
  | cons q Fs ih => intro K h v g _; exact ih _ (fun E G => h _ _)

section
variable {r : Option Nat} {P : Program} {Q : Exit → Act → World → Prop} {N : Nat} {D : List Deferred} {B : Nat} {w0 : World} {L : Env} {H : Hp} {ops : Array Oper} {rest : List Oper} {cb : Hp} {u : Nat}
/-- A new variable laid ahead of the tail. -/
theorem pn {E : Env} {Fs : List Fact} {d : Nat} {ty : TypeId} {pos : String} {aft : Array Edge} {ps : List (Nat × Post)} {t : TypeId} {sz : Nat} {ag : Bool} {z : List Value} [ht : TyP P t sz ag z]
    (k : PG r P N D B w0 H ops rest E ((d, isNew B z t) :: Fs) ps) (hd : Nat.blt d N = true := by exact rfl) :
    PG r P N D B w0 H ops (⟨some d, .alloc t, ty, pos, aft, none⟩ :: rest) E Fs ((d, .rel (isNew B z t)) :: ps) :=
  PG.rel _ rfl hd (AllF.all _ _ fun E' G X => TL_alloc hd fun b hb => TL_nil (TQ_QR (h := [(b, .cells z t)]) (v := .pointer (some ⟨b, 0, none⟩)) (lk_cons_same _ _ _) ⟨b, hb, rfl, rfl⟩ (fun _ h => h))) k
variable {d : Nat} {ty : TypeId} {pos : String} {aft : Array Edge}
theorem TL_nilCheck {x : Operand} {a : Addr} (hd : Nat.blt d N = true) (hx : ev L x = some (.pointer (some a)))
    (k : TL r P Q N D B w0 ((d, .pointer (some a)) :: L) H ops rest) : TL r P Q N D B w0 L H ops (⟨some d, .nilCheck x, ty, pos, aft, none⟩ :: rest) :=
  TL_val (by simp) hd _ (fun a w hf _ => by simp [execOp, hf.ev hx]) k

theorem sliceBound_run {kd : IntKind} {m : Int} {i y : Nat} {code : BoundsCode} (hm : m = (i : Int)) (hi : i ≤ y) (w : World) : (Instr.sliceBound (.int kd m) y code).run P w = .ok i w := by
  subst hm
  simp [Instr.sliceBound, asIntOf, hi]
/-- Part of a slice. -/
theorem TL_slice2 {t e : TypeId} {x y1 y2 : Operand} {sz : Nat} {ag : Bool} {z : List Value} {ao : Option Addr} {n c : Nat} {k1 k2 : IntKind} {m1 m2 : Int} (i j : Nat) (hd : Nat.blt d N = true) [hu : SlcP P t e] [he : TyP P e sz ag z]
    (hx : ev L x = some (.slice ao n c)) (h1 : ev L y1 = some (.int k1 m1)) (h2 : ev L y2 = some (.int k2 m2)) (e1 : m1 = (i : Int)) (e2 : m2 = (j : Int)) (hij : i ≤ j) (hjn : j ≤ c)
    (k : TL r P Q N D B w0 ((d, .slice (if c = i then ao else ao.map (·.add (i * sz))) (j - i) (c - i)) :: L) H ops rest) : TL r P Q N D B w0 L H ops (⟨some d, .slice t x (some y1) (some y2) none, ty, pos, aft, none⟩ :: rest) :=
  TL_val (by simp) hd _ (fun a w hf _ => by
    obtain ⟨q, _, hj, hsz, _, _⟩ := he.info
    have g1 : (Go.sizeOf e).run P w = .ok sz w := by rw [run_sizeOf w hj]; simp [Program.cellsOf, hj, hsz]
    have s1 := fun c => sliceBound_run (P := P) (code := c) (kd := k2) e2 hjn w
    have s2 := fun c => sliceBound_run (P := P) (code := c) (kd := k1) e1 hij w
    simp [execOp, hf.ev hx, hf.ev h1, hf.ev h2, Instr.sliceAt, Instr.slice, run_underlying hu.u, Instr.sliceBounds, g1, s1, s2]) k
end

/-! ### Maps with numbers as keys -/
def mget (kd : IntKind) : List MapEntry → Int → Option Value
  | [], _ => none
  | e :: es, k => match e.key with
    | .int kd' m => if kd' = kd ∧ m = k then some e.val else mget kd es k
    | _ => mget kd es k
/-- The entries es stand for f. -/
structure MR (kd : IntKind) (es : List MapEntry) (f : Int → Option Value) : Prop where
  keys : ∀ e ∈ es, ∃ m, e.key = .int kd m
  get : ∀ k, mget kd es k = f k
def fupd (f : Int → Option Value) (k : Int) (v : Value) : Int → Option Value := fun j => if j = k then some v else f j
def fdel (f : Int → Option Value) (k : Int) : Int → Option Value := fun j => if j = k then none else f j
theorem MR.nil {kd : IntKind} : MR kd [] (fun _ => none) := ⟨fun e h => (by cases h), fun _ => rfl⟩

theorem findNow_int {kd : IntKind} (k : Int) : ∀ (es : List MapEntry) (i : Nat), (∀ e ∈ es, ∃ m, e.key = .int kd m) →
    (∃ j e, es[j]? = some e ∧ e.key = .int kd k ∧ mget kd es k = some e.val ∧ Instr.findNow (.int kd) (.int kd k) es i = some (some (i + j, e.val)) ∧ ∀ q x, q < j → es[q]? = some x → x.key ≠ .int kd k) ∨
    (mget kd es k = none ∧ Instr.findNow (.int kd) (.int kd k) es i = some none ∧ ∀ e ∈ es, e.key ≠ .int kd k) := by
  intro es
  induction es with
  | nil => intro i _; exact .inr ⟨rfl, rfl, fun e h => by cases h⟩
  | cons e es ih =>
    intro i h
    obtain ⟨m, hm⟩ := h e List.mem_cons_self
    by_cases hk : m = k
    · subst hk
      refine .inl ⟨0, e, rfl, hm, ?_, ?_, fun q x hq => by omega⟩
      · simp [mget, hm]
      · simp [Instr.findNow, hm, Instr.sameNow]
    · have hk' : ¬ k = m := fun e => hk e.symm
      have e1 : mget kd (e :: es) k = mget kd es k := by simp [mget, hm, hk]
      have e2 : Instr.findNow (.int kd) (.int kd k) (e :: es) i = Instr.findNow (.int kd) (.int kd k) es (i + 1) := by
        have hkm : (k == m) = false := by simpa using hk'
        simp [Instr.findNow, hm, Instr.sameNow, hkm]
      rcases ih (i + 1) (fun x hx => h x (List.mem_cons_of_mem _ hx)) with ⟨j, x, h1, h2, h3, h4, h5⟩ | ⟨h1, h2, h3⟩
      · refine .inl ⟨j + 1, x, by simpa using h1, h2, by rw [e1]; exact h3, by rw [e2, h4, show i + 1 + j = i + (j + 1) by omega], fun q y hq hy => ?_⟩
        cases q with
        | zero => simp at hy; subst hy; rw [hm]; simpa using hk
        | succ q => exact h5 q y (by omega) (by simpa using hy)
      · refine .inr ⟨by rw [e1]; exact h1, by rw [e2]; exact h2, fun x hx => ?_⟩
        rcases List.mem_cons.1 hx with rfl | hx
        · rw [hm]; simpa using hk
        · exact h3 x hx

theorem mget_modify {kd : IntKind} (k : Int) (v : Value) : ∀ (es : List MapEntry) (j : Nat) (e : MapEntry), (∀ e ∈ es, ∃ m, e.key = .int kd m) → es[j]? = some e → e.key = .int kd k → (∀ q x, q < j → es[q]? = some x → x.key ≠ .int kd k) →
    ∀ k', mget kd (es.modify j fun e => { e with key := .int kd k, val := v }) k' = if k' = k then some v else mget kd es k' := by
  intro es
  induction es with
  | nil => intro j e _ h; simp at h
  | cons x es ih =>
    intro j e hk hj hek hb k'
    obtain ⟨m, hm⟩ := hk x List.mem_cons_self
    cases j with
    | zero =>
      simp at hj; subst hj
      rw [hek] at hm; cases hm
      simp only [List.modify_zero_cons, mget, hek]
      by_cases h : k' = k
      · subst h; simp
      · have : ¬ k = k' := fun e => h e.symm
        simp [h, this]
    | succ j =>
      have hmk : m ≠ k := by
        have := hb 0 x (by omega) rfl
        rw [hm] at this
        simpa using this
      rw [List.modify_succ_cons]
      have := ih j e (fun y hy => hk y (List.mem_cons_of_mem _ hy)) (by simpa using hj) hek (fun q y hq hy => hb (q + 1) y (by omega) (by simpa using hy)) k'
      simp only [mget, hm, this]
      by_cases h : k' = k
      · subst h; simp [hmk]
      · simp [h]
theorem mget_push {kd : IntKind} (k : Int) (v : Value) (n : Nat) : ∀ (es : List MapEntry), (∀ e ∈ es, ∃ m, e.key = .int kd m) → (∀ e ∈ es, e.key ≠ .int kd k) →
    ∀ k', mget kd (es ++ [{ key := .int kd k, val := v, born := n }]) k' = if k' = k then some v else mget kd es k' := by
  intro es
  induction es with
  | nil =>
    intro _ _ k'
    simp only [List.nil_append, mget]
    by_cases h : k' = k
    · subst h; simp
    · have : ¬ k = k' := fun e => h e.symm
      simp [h, this]
  | cons x es ih =>
    intro hk hb k'
    obtain ⟨m, hm⟩ := hk x List.mem_cons_self
    have hmk : m ≠ k := by
      have := hb x List.mem_cons_self
      rw [hm] at this
      simpa using this
    have := ih (fun y hy => hk y (List.mem_cons_of_mem _ hy)) (fun y hy => hb y (List.mem_cons_of_mem _ hy)) k'
    rw [List.cons_append]
    simp only [mget, hm, this]
    by_cases h : k' = k
    · subst h; simp [hmk]
    · simp [h]

section
variable {r : Option Nat} {P : Program} {Q : Exit → Act → World → Prop} {N : Nat} {D : List Deferred} {B : Nat} {w0 : World} {L : Env} {H : Hp} {ops : Array Oper} {rest : List Oper}
variable {d : Nat} {ty : TypeId} {pos : String} {aft : Array Edge}
theorem run_checkKey_int {kt : TypeId} {kd : IntKind} [hk : IntP P kt kd] (b : Bool) (k : Int) (w : World) : (Instr.checkKey b 10000 kt (.int kd k)).run P w = .ok () w := by
  have : ∀ n, (Instr.checkKey b (n + 1) kt (.int kd k)).run P w = .ok () w := fun n => by
    rw [Instr.checkKey]
    simp [run_underlying hk.u]
  exact this 9999
theorem TL_makeMap {t : TypeId} (hd : Nat.blt d N = true) (k : ∀ b, B ≤ b → TL r P Q N D B w0 ((d, .map (some b)) :: L) ((b, .obj (.map #[] 0)) :: H) ops rest) : TL r P Q N D B w0 L H ops (⟨some d, .makeMap t none, ty, pos, aft, none⟩ :: rest) :=
  TL_valw (by simp) hd (fun b : Nat => .map (some b)) (fun b => (b, .obj (.map #[] 0)) :: H) (fun b => B ≤ b) (fun a w hf hs => ⟨w.heap.size, w.alloc (Blk.obj (.map #[] 0)).toObj, hs.hB, by
    simp [execOp, Instr.makeMap, Blk.toObj], hs.alloc _⟩) k
theorem run_mapUpdate {t kt e : TypeId} {kd : IntKind} [hm : MapP P t kt e] [hk : IntP P kt kd] {b : Nat} {es : Array MapEntry} {clk : Nat} {f : Int → Option Value} (hr : MR kd es.toList f) {key : Int} {v : Value} {w : World} (hb : w.heap[b]? = some (.map es clk)) :
    ∃ es' clk', MR kd es'.toList (fupd f key v) ∧ (Instr.mapUpdate t (.map (some b)) (.int kd key) v).run P w = .ok () (w.putObj b (.map es' clk')) := by
  have hget : (getObj b).run P w = .ok (.map es clk) w := by simp [getObj, Sem.run, hb]
  have hset : ∀ o, (setObj b o).run P w = .ok () (w.putObj b o) := fun o => by simp [setObj, Sem.run, hb, World.putObj]
  rcases findNow_int key es.toList 0 hr.keys with ⟨j, x, h1, h2, h3, h4, h5⟩ | ⟨h1, h2, h3⟩
  · refine ⟨es.modify j fun e => { e with key := .int kd key, val := v }, clk, ⟨fun e' he' => ?_, fun k' => ?_⟩, ?_⟩
    · rw [Array.toList_modify] at he'
      obtain ⟨q, hq⟩ := List.getElem?_of_mem he'
      rw [List.getElem?_modify] at hq
      split at hq
      · obtain ⟨y, hy, rfl⟩ := Option.map_eq_some_iff.1 hq
        exact ⟨key, rfl⟩
      · simp at hq
        exact hr.keys e' (List.mem_of_getElem? (by simpa using hq))
    · rw [Array.toList_modify, mget_modify key v es.toList j x hr.keys h1 h2 h5 k', hr.get]; rfl
    · have h1' : es[j]? = some x := by simpa using h1
      have hkts : (Instr.keyThatStays (Value.int kd key) (Value.int kd key)).run P w = .ok (.int kd key) w := by
        simp [Instr.keyThatStays, Instr.sameBits]
      simp [Instr.mapUpdate, run_underlying hm.u, hget, run_checkKey_int, Instr.findKey, run_underlying hk.u, h4, h1', h2, hkts, hset]
  · refine ⟨es.push { key := .int kd key, val := v, born := clk }, clk + 1, ⟨fun e' he' => ?_, fun k' => ?_⟩, ?_⟩
    · rw [Array.toList_push] at he'
      rcases List.mem_append.1 he' with h | h
      · exact hr.keys e' h
      · rw [List.mem_singleton] at h; subst h; exact ⟨key, rfl⟩
    · rw [Array.toList_push, mget_push key v clk es.toList hr.keys h3 k', hr.get]; rfl
    · simp [Instr.mapUpdate, run_underlying hm.u, hget, run_checkKey_int, Instr.findKey, run_underlying hk.u, h2, hset]
theorem TL_mapSet {o : Op} {t kt e : TypeId} {kd : IntKind} {x y z : Operand} (ho : o = .mapUpdate t x y z ∨ o = .insert t x y z) [hm : MapP P t kt e] [hk : IntP P kt kd] {b : Nat} {es : Array MapEntry} {clk : Nat} {f : Int → Option Value} {key : Int} {v : Value} {H' : Array MapEntry → Nat → Hp}
    (hx : ev L x = some (.map (some b))) (hy : ev L y = some (.int kd key)) (hz : ev L z = some v) (hu : ∀ es' clk', Upd H b (.obj (.map es clk)) (.obj (.map es' clk')) (H' es' clk')) (hr : MR kd es.toList f)
    (k : ∀ es' clk', MR kd (Array.toList es') (fupd f key v) → TL r P Q N D B w0 L (H' es' clk') ops rest) : TL r P Q N D B w0 L H ops (⟨none, o, ty, pos, aft, none⟩ :: rest) := by
  refine TL_run rfl (by rcases ho with rfl | rfl <;> simp) fun a w hf hs => ?_
  obtain ⟨es', clk', h1, h2⟩ := run_mapUpdate (P := P) (t := t) hr (key := key) (v := v) (hs.holds b _ (hu es clk).mem).2
  have e : (execOp a.eval ⟨none, o, ty, pos, aft, none⟩).run P w = .ok .skip (w.putObj b (.map es' clk')) := by
    rcases ho with rfl | rfl <;> simp [execOp, hf.ev hx, hf.ev hy, hf.ev hz, h2]
  rw [e]
  exact k es' clk' h1 _ _ hf (hs.putObj _ (hu es' clk'))
theorem run_lookup {t kt e : TypeId} {kd : IntKind} [hm : MapP P t kt e] [hk : IntP P kt kd] {b : Nat} {es : Array MapEntry} {clk : Nat} {f : Int → Option Value} (hr : MR kd es.toList f) {key : Int} {z : Value} {w : World} (hb : w.heap[b]? = some (.map es clk)) (hz : (zeroValue e).run P w = .ok z w) :
    (Instr.lookup t (.map (some b)) (.int kd key) false).run P w = .ok ((f key).getD z) w := by
  have hget : (getObj b).run P w = .ok (.map es clk) w := by simp [getObj, Sem.run, hb]
  have hg := hr.get key
  rcases findNow_int key es.toList 0 hr.keys with ⟨j, x, h1, h2, h3, h4, h5⟩ | ⟨h1, h2, h3⟩
  · rw [h3] at hg
    simp [Instr.lookup, run_underlying hm.u, hget, run_checkKey_int, Instr.findKey, run_underlying hk.u, h4, ← hg]
  · rw [h1] at hg
    simp [Instr.lookup, run_underlying hm.u, hget, run_checkKey_int, Instr.findKey, run_underlying hk.u, h2, ← hg, hz]
/-- A look-up, whatever is there. -/
theorem TL_lookup {t kt e : TypeId} {kd : IntKind} {x y : Operand} [hm : MapP P t kt e] [hk : IntP P kt kd] {b : Nat} {es : Array MapEntry} {clk : Nat} {f : Int → Option Value} {key : Int} {z v : Value} (hd : Nat.blt d N = true)
    (hx : ev L x = some (.map (some b))) (hy : ev L y = some (.int kd key)) (hb : (b, .obj (.map es clk)) ∈ H) (hr : MR kd es.toList f) (hze : ∀ w, (zeroValue e).run P w = .ok z w) (hv : (f key).getD z = v)
    (k : TL r P Q N D B w0 ((d, v) :: L) H ops rest) : TL r P Q N D B w0 L H ops (⟨some d, .lookup t x y false, ty, pos, aft, none⟩ :: rest) :=
  TL_val (by simp) hd _ (fun a w hf hs => by
    have h := run_lookup (P := P) (t := t) hr (key := key) (hs.holds b _ hb).2 (hze w)
    rw [hv] at h
    simp [execOp, hf.ev hx, hf.ev hy, h]) k
/-- .. in no map. -/
theorem TL_lookup_nil {t kt e : TypeId} {kd : IntKind} {x y : Operand} [hm : MapP P t kt e] [hk : IntP P kt kd] {z : Value} {key : Int} (hd : Nat.blt d N = true)
    (hx : ev L x = some (.map none)) (hy : ev L y = some (.int kd key)) (hze : ∀ w, (zeroValue e).run P w = .ok z w)
    (k : TL r P Q N D B w0 ((d, z) :: L) H ops rest) : TL r P Q N D B w0 L H ops (⟨some d, .lookup t x y false, ty, pos, aft, none⟩ :: rest) :=
  TL_val (by simp) hd _ (fun a w hf hs => by
    have h : (Instr.lookup t (.map none) (.int kd key) false).run P w = .ok z w := by
      simp [Instr.lookup, run_underlying hm.u, run_checkKey_int, Instr.findKey, run_underlying hk.u, Instr.findNow, hze]
    simp [execOp, hf.ev hx, hf.ev hy, h]) k
/-- Ways that meet again ahead of y. -/
theorem TC_join {c y : Code} {σ : Type} (p : σ → Prop) (Lx : σ → Env) (Hx : σ → Hp) (h1 : TC r P (Exit.then (fun a w => ∃ s, p s ∧ Fr N D (Lx s) a ∧ SH B w0 w (Hx s)) Q) N D B w0 L H c)
    (h2 : ∀ s, p s → TC r P Q N D B w0 (Lx s) (Hx s) y) : TC r P (Exit.then (y.wpIn (FW r) 0 P Q) Q) N D B w0 L H c := fun a w hf hs =>
  wpIn_mono (h1 a w hf hs) fun e a' w' hq => by
    cases e with
    | normal => obtain ⟨s, hp, hf', hs'⟩ := hq; exact h2 s hp _ _ hf' hs'
    | _ => exact hq
/-- A call that turns block n of the heap. -/
def setAt : Nat → Nat × Blk → Hp → Hp
  | _, _, [] => []
  | 0, x, _ :: H => x :: H
  | n + 1, x, y :: H => y :: setAt n x H
end

/-! ### Comparing arrays of numbers -/
theorem run_eqItems_ints {P : Program} {e : TypeId} {k lv d : Nat} {ag : Bool} [he : TyP P e k ag (List.replicate k (.int .i64 0))] [heq : EqP P e lv k] (hk : (ag || k == 1) = true) (hd : lv ≤ d) {xs ys : List Int} (w : World) : ∀ (m off : Nat), (off + m) * k ≤ xs.length → (off + m) * k ≤ ys.length →
    (Op.eqItems d e k (encIs xs).toArray (encIs ys).toArray (List.range' off m)).run P w = .ok (decide ((xs.drop (off * k)).take (m * k) = (ys.drop (off * k)).take (m * k))) w := by
  have hag : ag = false → k = 1 := fun h => by subst h; simpa using hk
  intro m
  induction m with
  | zero => intro off _ _; simp [Op.eqItems]
  | succ m ih =>
    intro off hx hy
    have e1 : off * k + k ≤ (off + (m + 1)) * k := by
      rw [← Nat.succ_mul]; exact Nat.mul_le_mul_right _ (by omega)
    rw [List.range'_succ, Op.eqItems]
    simp only [Sem.run_bind, run_part_ints (ht := he) w (l := xs) (off := off * k) (k := k) (by omega) hag, run_part_ints (ht := he) w (l := ys) (off := off * k) (k := k) (by omega) hag, Result.andThen_ok]
    rw [heq.run d ((xs.drop (off * k)).take k) ((ys.drop (off * k)).take k) _ _ w hd (by simp; omega) (by simp; omega) ⟨ag, he, rfl, rfl⟩]
    simp only [Result.andThen_ok]
    have key : ∀ (l : List Int), (l.drop (off * k)).take ((m + 1) * k) = (l.drop (off * k)).take k ++ (l.drop ((off + 1) * k)).take (m * k) := fun l => by
      rw [show (m + 1) * k = k + m * k by rw [Nat.succ_mul]; omega, List.take_add, List.drop_drop, show off * k + k = (off + 1) * k by rw [Nat.succ_mul]]
    by_cases hh : (xs.drop (off * k)).take k = (ys.drop (off * k)).take k
    · simp only [hh, decide_true, Bool.not_true, Bool.false_eq_true, if_false]
      rw [ih (off + 1) (by rw [show off + 1 + m = off + (m + 1) by omega]; exact hx) (by rw [show off + 1 + m = off + (m + 1) by omega]; exact hy)]
      congr 2
      rw [eq_iff_iff, key xs, key ys, hh]
      constructor
      · intro h; rw [h]
      · intro h; exact List.append_cancel_left h
    · have : ¬ (xs.drop (off * k)).take ((m + 1) * k) = (ys.drop (off * k)).take ((m + 1) * k) := fun h => hh (by
        have h2 := congrArg (List.take k) h
        have h3 : ∀ l : List Int, (l.take ((m + 1) * k)).take k = l.take k := fun l => by
          rw [List.take_take, Nat.min_eq_left (by rw [Nat.succ_mul]; omega)]
        rwa [h3, h3] at h2)
      simp [hh, this]
theorem EqP.array {P : Program} {t e : TypeId} {n k nk lv : Nat} {ag : Bool} [ht : TyP P t nk true (List.replicate nk (.int .i64 0))] [he : TyP P e k ag (List.replicate k (.int .i64 0))] [heq : EqP P e lv k] (hu : P.underlying t = some (.array n e)) (hk : (ag || k == 1) = true) (hnk : n * k = nk) : EqP P t (lv + 1) nk := ⟨by
  intro d xs ys v u w hd ha hb ⟨ag', hag, hv, hu'⟩
  have : ag' = true := by
    have h1 := hag.ag w
    rw [ht.ag w] at h1
    simpa using h1.symm
  subst this
  subst hv hu'
  obtain ⟨d, rfl⟩ : ∃ e, d = e + 1 := ⟨d - 1, by omega⟩
  obtain ⟨i, _, hi, hsz, _, _⟩ := he.info
  have hc : P.cellsOf e = k := by simp [Program.cellsOf, hi, hsz]
  simp only [if_true]
  rw [run_equalIn_array w d _ _ hu hi, hc, List.range_eq_range', run_eqItems_ints hk (by omega) w n 0 (by rw [Nat.zero_add, hnk]; omega) (by rw [Nat.zero_add, hnk]; omega)]
  congr 2
  rw [Nat.zero_mul, List.drop_zero, List.drop_zero, hnk, List.take_of_length_le (by omega), List.take_of_length_le (by omega)]⟩
end Go.Eng
/- The engine, part 15: fields of values, shifts, masks, slices held against nil. -/
namespace Go.Eng
open Go Go.RowKit
set_option linter.unusedVariables false

/-- Field f of a value of struct type s: its place, its cells, whether they are a value of several. -/
class FldV (P : Program) (s f : Nat) (off sz : outParam Nat) (ag : outParam Bool) : Prop where
  info : ∃ (fs : Array Field) (fd : Field) (z : List Value), P.underlying s = some (.struct fs) ∧ fs[f]? = some fd ∧ fd.offset = off ∧ TyP P fd.type sz ag z
theorem FldV.mk' {P : Program} {s f off sz : Nat} {ag : Bool} {fs : Array Field} {fd : Field} {z : List Value} (hu : P.underlying s = some (.struct fs)) (hf : fs[f]? = some fd) (ho : fd.offset = off) (ht : TyP P fd.type sz ag z) : FldV P s f off sz ag := ⟨fs, fd, z, hu, hf, ho, ht⟩
section
variable {r : Option Nat} {P : Program} {Q : Exit → Act → World → Prop} {N : Nat} {D : List Deferred} {B : Nat} {w0 : World} {L : Env} {H : Hp} {ops : Array Oper} {rest : List Oper}
variable {d : Nat} {ty : TypeId} {pos : String} {aft : Array Edge}
theorem TL_field1 {s f off sz : Nat} {x : Operand} {vs : List Value} {v : Value} (hd : Nat.blt d N = true) [hF : FldV P s f off sz false] (hx : ev L x = some (.agg vs.toArray)) (hv : takeN 1 (dropN off vs) = some [v])
    (k : TL r P Q N D B w0 ((d, v) :: L) H ops rest) : TL r P Q N D B w0 L H ops (⟨some d, .field s x f, ty, pos, aft, none⟩ :: rest) :=
  TL_val (by simp) hd _ (fun a w hf _ => by
    obtain ⟨fs, fd, z, hu, hfd, ho, ht⟩ := hF.info
    have h1 := takeN_some hv
    rw [dropN_eq] at h1
    have h2 : vs[off]? = some v := by
      have := congrArg (·[0]?) h1.1
      simpa [List.getElem?_take] using this.symm
    subst ho
    simp [execOp, hf.ev hx, Instr.field, run_underlying hu, hfd, asAgg, part, ht.ag w, h2]) k
/-- A slice held against nil. -/
theorem TL_eql_slnil {t t' e : TypeId} {x : Operand} {ao : Option Addr} {n c : Nat} {b : Bool} (hd : Nat.blt d N = true) [hu : SlcP P t e] (hx : ev L x = some (.slice ao n c)) (hb : ao.isNone = b)
    (k : TL r P Q N D B w0 ((d, .bool b) :: L) H ops rest) : TL r P Q N D B w0 L H ops (⟨some d, .binOp .eql t x (.const (.slice none 0 0)) t', ty, pos, aft, none⟩ :: rest) :=
  TL_val (by simp) hd _ (fun a w hf _ => by
    subst hb
    have h := run_equalIn_slice_nil (P := P) w 9999 t e ao n c hu.u
    have hc : a.eval (.const (.slice none 0 0)) = .slice none 0 0 := rfl
    simp [execOp, hf.ev hx, hc, eqGuard, binOp, Op.equal, Op.maxDepth, h]) k
end
end Go.Eng
