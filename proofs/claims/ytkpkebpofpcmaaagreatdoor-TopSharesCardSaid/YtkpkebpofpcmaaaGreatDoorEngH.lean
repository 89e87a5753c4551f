/- The engine: drawn regions in which one store floats, and those that it waits for may look at the block that it turns (made by mkq.py out of EngC's text). -/
import Derived.Test.YtkpkebpofpcmaaaGreatDoorEngR
import Derived.Test.YtkpkebpofpcmaaaGreatDoorEngX
import Derived.Laws.Externs
namespace Go.Eng
open Go Go.RowKit
section
variable (r : Option Nat) (P : Program) (N : Nat) (D : List Deferred) (B : Nat) (w0 : World) (H : Hp) (cb : Hp) (u : Nat) (ops : Array Oper) (el : List Nat)
inductive PG5 : Nat → List Oper → Env → List Fact → List (Nat × Post) → Prop
  | nil {i E Fs} : PG5 i [] E Fs []
  | val {i o rest E Fs d c ps} : o.dst = some d → Nat.blt d N = true → (AllF (fltF ops o Fs) fun EF G => ∀ X : Hp, TL r P (QV D B w0 d c (G ++ (X ++ H))) N D B w0 (EF ++ E) (G ++ (X ++ H)) ops [o]) →
      PG5 (i + 1) rest ((d, c) :: E) Fs ps → PG5 i (o :: rest) E Fs ((d, .val c) :: ps)
  | vale {i o rest E Fs d c ps} : o.dst = some d → Nat.blt d N = true → el.contains i = true → (AllF (fltF ops o Fs) fun EF G => ∀ X : Hp, TL r P (QV D B w0 d c (G ++ (X ++ (cb ++ H)))) N D B w0 (EF ++ E) (G ++ (X ++ (cb ++ H))) ops [o]) →
      PG5 (i + 1) rest ((d, c) :: E) Fs ps → PG5 i (o :: rest) E Fs ((d, .val c) :: ps)
  | sto {i o rest E Fs ps} (k' : Hp) : o.dst = none → Nat.blt u N = true → (AllF (fltF ops o Fs) fun EF G => ∀ X : Hp, TL r P (bodyQD N D B w0 (G ++ (X ++ (k' ++ H)))) N D B w0 (EF ++ E) (G ++ (X ++ (cb ++ H))) ops [o]) →
      PG5 (i + 1) rest E ((u, fun _ h => h = k') :: Fs) ps → PG5 i (o :: rest) E Fs ((u, .rel (fun _ h => h = k')) :: ps)
end
def earlyOk (l : List Oper) (s : Nat) (el : List Nat) : Bool := el.all fun i => (reachN l.toArray l.length (depsL l.toArray s)).contains i
theorem earlyOk_spec {l : List Oper} {s : Nat} {el : List Nat} (h : earlyOk l s el = true) : ∀ i, el.contains i = true → i ∈ reachN l.toArray l.length (depsL l.toArray s) := fun i hi => by
  have := List.all_eq_true.1 h i (List.contains_iff_mem.1 hi)
  exact List.contains_iff_mem.1 this
section
variable {r : Option Nat} {P : Program} {Q : Exit → Act → World → Prop} {N : Nat} {D : List Deferred} {B : Nat} {w0 : World} {L : Env} {H : Hp} {ops : Array Oper} {rest : List Oper} {cb : Hp} {s u : Nat} {el : List Nat}
theorem PG5_spec {i0 : Nat} {l : List Oper} {E : Env} {Fs : List Fact} {ps : List (Nat × Post)} (h : PG5 r P N D B w0 H cb u ops el i0 l E Fs ps) :
    l.length = ps.length ∧ ∀ (i : Nat) o, l[i]? = some o → ∃ q, ps[i]? = some q ∧ q.1 < N ∧ ((o.dst = some q.1 ∧ ∃ eb : Bool, (eb = true → el.contains (i0 + i) = true) ∧ ObR r P N D B w0 (if eb then cb ++ H else H) ops o q (envA E (ps.take i)) (fsA Fs (ps.take i))) ∨ (o.dst = none ∧ q.1 = u ∧ (∃ k', q.2 = Post.rel (fun _ h => h = k')) ∧ ObS r P N D B w0 H cb ops o q (envA E (ps.take i)) (fsA Fs (ps.take i)))) := by
  induction h with
  | nil => exact ⟨rfl, fun i o h => by simp at h⟩
  | val hd hN hob _ ih =>
    rename_i i1 o0 rest0 E0 Fs0 d0 c0 ps0 _
    refine ⟨by simp [ih.1], fun i o h => ?_⟩
    cases i with
    | zero =>
      simp at h; subst h
      refine ⟨_, rfl, by simpa using hN, .inl ⟨hd, false, fun h => (by cases h), ?_⟩⟩
      exact AllF.mono (fun EF G hh X => (hh X).mono_Q (fun e a w ⟨h1, h0, h2, h3⟩ => ⟨h1, h0, _, [], h2, ⟨rfl, rfl⟩, h3⟩)) hob
    | succ i =>
      obtain ⟨q, h1, h2⟩ := ih.2 i o (by simpa using h)
      refine ⟨q, by simpa using h1, ?_⟩
      rw [show i1 + (i + 1) = i1 + 1 + i by omega]; exact h2
  | vale hd hN hel hob _ ih =>
    rename_i i1 o0 rest0 E0 Fs0 d0 c0 ps0 _
    refine ⟨by simp [ih.1], fun i o h => ?_⟩
    cases i with
    | zero =>
      simp at h; subst h
      refine ⟨_, rfl, by simpa using hN, .inl ⟨hd, true, fun _ => hel, ?_⟩⟩
      exact AllF.mono (fun EF G hh X => (hh X).mono_Q (fun e a w ⟨h1, h0, h2, h3⟩ => ⟨h1, h0, _, [], h2, ⟨rfl, rfl⟩, h3⟩)) hob
    | succ i =>
      obtain ⟨q, h1, h2⟩ := ih.2 i o (by simpa using h)
      refine ⟨q, by simpa using h1, ?_⟩
      rw [show i1 + (i + 1) = i1 + 1 + i by omega]; exact h2
  | sto k' hd hN hob _ ih =>
    rename_i i1 o0 rest0 E0 Fs0 ps0 _
    refine ⟨by simp [ih.1], fun i o h => ?_⟩
    cases i with
    | zero =>
      simp at h; subst h
      refine ⟨_, rfl, by simpa using hN, .inr ⟨hd, rfl, ⟨k', rfl⟩, ?_⟩⟩
      refine AllF.mono (fun EF G hh X => ?_) hob
      have hu : u < N := by simpa using hN
      refine (hh X).mono_Q (fun e a w ⟨h1, hz, h0, h3⟩ => ⟨h1, h0, a.tmps[u]'(by omega), k', by rw [Array.getElem?_eq_getElem], rfl, h3.perm ?_⟩)
      have e1 : (k' ++ (G ++ X)).Perm ((G ++ X) ++ k') := List.perm_append_comm
      have e2 := e1.append_right H
      simpa [List.append_assoc] using e2
    | succ i =>
      obtain ⟨q, h1, h2⟩ := ih.2 i o (by simpa using h)
      refine ⟨q, by simpa using h1, ?_⟩
      rw [show i1 + (i + 1) = i1 + 1 + i by omega]; exact h2
theorem wpAny_stage5 {l : List Oper} {T : Nat} {ps : List (Nat × Post)} (ok : DrawOK2 l T s u) (hsT : s < T) (hel : ∀ i, el.contains i = true → i ∈ reachN l.toArray l.length (depsL l.toArray s)) (hLN : ∀ k v, lk L k = some v → k < N) (hlen : T = ps.length)
    (hps : ∀ (i : Nat) o, (l.take T)[i]? = some o → ∃ q, ps[i]? = some q ∧ q.1 < N ∧ ((o.dst = some q.1 ∧ ∃ eb : Bool, (eb = true → el.contains i = true) ∧ ObR r P N D B w0 (if eb then cb ++ H else H) l.toArray o q (envA L (ps.take i)) (fsA [] (ps.take i))) ∨ (o.dst = none ∧ q.1 = u ∧ (∃ k', q.2 = Post.rel (fun _ h => h = k')) ∧ ObS r P N D B w0 H cb l.toArray o q (envA L (ps.take i)) (fsA [] (ps.take i)))))
    (hK : AllF (fsA [] ps) fun EF G => TL r P Q N D B w0 (EF ++ envA L ps) (G ++ H) l.toArray (l.drop T)) :
    ∀ (fuel : Nat) (listed : Array Bool) (a : Act) (w : World), listed.size = l.length → (listed.toList.count false) = fuel → Closed l.toArray listed → (∀ i, T ≤ i → i < l.length → listed.getD i true = false) →
      Stage2 l T ps N D B w0 L H s cb listed a w → wpAnyIn (FW r) 0 P .any l.toArray Q fuel listed a w := by
  have hpl : ∀ i, i < T → ∃ o q, l[i]? = some o ∧ ps[i]? = some q ∧ q.1 < N ∧ ((o.dst = some q.1 ∧ ∃ eb : Bool, (eb = true → el.contains i = true) ∧ ObR r P N D B w0 (if eb then cb ++ H else H) l.toArray o q (envA L (ps.take i)) (fsA [] (ps.take i))) ∨ (o.dst = none ∧ q.1 = u ∧ (∃ k', q.2 = Post.rel (fun _ h => h = k')) ∧ ObS r P N D B w0 H cb l.toArray o q (envA L (ps.take i)) (fsA [] (ps.take i)))) := by
    intro i hi
    have hil : i < l.length := Nat.lt_of_lt_of_le hi ok.ok.hT
    have : (l.take T)[i]? = some l[i] := by rw [List.getElem?_take, if_pos hi, List.getElem?_eq_getElem hil]
    obtain ⟨q, h1, h2, h3⟩ := hps i _ this
    exact ⟨l[i], q, List.getElem?_eq_getElem hil, h1, h2, h3⟩
  have hidx : ∀ (i : Nat) q, ps[i]? = some q → i < T := fun i q h => by rw [hlen]; exact (List.getElem?_eq_some_iff.1 h).1
  have huniq : ∀ (i j : Nat) q p, ps[i]? = some q → ps[j]? = some p → q.1 = p.1 → i = j := by
    intro i j q p hi hj e
    by_cases hne : i = j
    · exact hne
    · obtain ⟨oi, qi, h1, h2, _, h3⟩ := hpl i (hidx i q hi)
      obtain ⟨oj, qj, h4, h5, _, h6⟩ := hpl j (hidx j p hj)
      rw [hi] at h2; rw [hj] at h5
      cases h2; cases h5
      have ui := ok.un i oi (hidx i _ hi) h1
      have uj := ok.un j oj (hidx j _ hj) h4
      rcases h3 with ⟨h3, _⟩ | ⟨h3, hu3, _⟩
      · rcases h6 with ⟨h6, _⟩ | ⟨h6, hu6, _⟩
        · exact absurd (by rw [h3, h6, e]) (ok.ok.dist i j oi oj (hidx i _ hi) (hidx j _ hj) hne h1 h4)
        · exact absurd (by rw [h3, e, hu6]) ui.2
      · rcases h6 with ⟨h6, _⟩ | ⟨h6, hu6, _⟩
        · exact absurd (by rw [h6, ← e, hu3]) uj.2
        · exact absurd (by rw [h3, h6]) (ok.ok.dist i j oi oj (hidx i _ hi) (hidx j _ hj) hne h1 h4)
  have hnodup : (ps.map (·.1)).Nodup := by
    rw [List.nodup_iff_pairwise_ne, List.pairwise_iff_getElem]
    intro i j hi hj hij e
    rw [List.getElem_map, List.getElem_map] at e
    have hi' : i < ps.length := by simpa using hi
    have hj' : j < ps.length := by simpa using hj
    have := huniq i j _ _ (List.getElem?_eq_getElem hi') (List.getElem?_eq_getElem hj') e
    omega
  intro fuel
  induction fuel with
  | zero =>
    intro listed a w hsz hcnt hcl hto st
    exact (wpAny_stage_done2 ok hlen hidx hnodup hK hsz (fun i hi => by
      cases hc : listed.getD i true with
      | true => rfl
      | false =>
        exfalso
        have hlt : i < listed.size := by have := ok.ok.hT; omega
        have : false ∈ listed.toList := by
          simp [hlt] at hc
          rw [← hc]; exact Array.getElem_mem_toList _
        exact absurd hcnt (by have := List.count_pos_iff.2 this; omega)) hto st 0 (by
      have : T = l.length := by
        rcases Nat.lt_or_ge T l.length with h | h
        · exfalso
          have h1 := hto T (Nat.le_refl _) h
          have hlt : T < listed.size := by omega
          have : false ∈ listed.toList := by
            simp [hlt] at h1
            rw [← h1]; exact Array.getElem_mem_toList _
          exact absurd hcnt (by have := List.count_pos_iff.2 this; omega)
        · have := ok.ok.hT; omega
      omega))
  | succ fuel ih =>
    intro listed a w hsz hcnt hcl hto st
    by_cases hall : ∀ i, i < T → listed.getD i true = true
    · -- the tail begins
      have hf : fuel + 1 + T = l.length := by
        have h1 : ∀ (m : List Bool) (T : Nat), T ≤ m.length → (∀ i, i < T → m[i]? = some true) → (∀ i, T ≤ i → i < m.length → m[i]? = some false) → m.count false + T = m.length := by
          intro m
          induction m with
          | nil => intro T h _ _; simp at h; simp [h]
          | cons x m ihm =>
            intro T hT ht hf
            cases T with
            | zero =>
              have hx : x = false := by have := hf 0 (Nat.le_refl _) (by simp); simpa using this
              have := ihm 0 (Nat.zero_le _) (fun i hi => by omega) (fun i _ hi => by have := hf (i + 1) (by omega) (by simp; omega); simpa using this)
              subst hx
              simp at this ⊢; omega
            | succ T =>
              have hx : x = true := by have := ht 0 (by omega); simpa using this
              have := ihm T (by simpa using hT) (fun i hi => by have := ht (i + 1) (by omega); simpa using this) (fun i hi hil => by have := hf (i + 1) (by omega) (by simp; omega); simpa using this)
              subst hx
              simp at this ⊢; omega
        have := h1 listed.toList T (by have := ok.ok.hT; simp; omega) (fun i hi => by
          have hlt : i < listed.size := by have := ok.ok.hT; omega
          have := hall i hi
          simp [hlt] at this ⊢; exact this) (fun i hi hil => by
          have hlt : i < listed.size := by simpa using hil
          have := hto i hi (by omega)
          simp [hlt] at this ⊢; exact this)
        rw [hcnt] at this
        simp at this; omega
      exact wpAny_stage_done2 ok hlen hidx hnodup hK hsz hall hto st _ hf
    · have hnot : ∃ i, i < T ∧ listed.getD i true = false := by
        refine Classical.byContradiction fun hn => hall fun i hi => ?_
        cases hc : listed.getD i true with
        | true => rfl
        | false => exact absurd ⟨i, hi, hc⟩ hn
      refine ⟨fun hnil => ?_, fun i hi => ?_⟩
      · obtain ⟨i, hiT, hc⟩ := hnot
        have := ready_nil hsz ok.ok.back hnil i (by have := ok.ok.hT; omega)
        rw [this] at hc; cases hc
      · obtain ⟨hun, ⟨o, ho⟩, hdeps⟩ := ready_deps hi
        have hil : i < l.length := (List.getElem?_eq_some_iff.1 ho).1
        have hiT : i < T := by
          rcases Nat.lt_or_ge i T with h | h
          · exact h
          · exfalso
            obtain ⟨j, hjT, hc⟩ := hnot
            have h3 := ok.ok.tail i h hil j (by omega)
            have h4 := reach_listed hcl (by simpa using hsz) l.length (depsL l.toArray i) (fun k hk => (getD_true (hdeps k hk)).1) j h3
            rw [h4] at hc; cases hc
        obtain ⟨o', q, ho', hq, hdN, hob⟩ := hpl i hiT
        rw [ho] at ho'
        cases ho'
        -- what it looks at has been written in turn
        have hturn : ∀ t ∈ o.looksAt l.toArray, ∀ (j : Nat) p, ps[j]? = some p → p.1 = t → (j < i ∧ listed.getD j true = true) ∨ (i < j ∧ listed.getD j true = false) := by
          intro t ht j p hp hpt
          obtain ⟨oj, pj, h1, h2, _, h3⟩ := hpl j (hidx j p hp)
          rw [hp] at h2
          cases h2
          have h3 : oj.dst = some p.1 := by
            rcases h3 with ⟨h3, _⟩ | ⟨_, hu3, _⟩
            · exact h3
            · exfalso; rw [← hpt, hu3] at ht; exact (ok.un i o hiT ho).1 ht
          have hj := ok.ok.look i j t o oj hiT (hidx j p hp) h1 (by rw [h3, hpt]) ho ht
          rcases hj with hj | hj
          · exact .inl ⟨ok.ok.back i hil j hj, (getD_true (hdeps j hj)).1⟩
          · have hjl : j < l.length := Nat.lt_of_lt_of_le (hidx j p hp) ok.ok.hT
            refine .inr ⟨reach_lt ok.ok.back l.length _ j (fun k hk => ok.ok.back j hjl k hk) i hj (Nat.le_of_lt hjl), ?_⟩
            cases hlj : listed.getD j true with
            | false => rfl
            | true =>
              have h4 := reach_listed hcl (by simpa using hsz) l.length (depsL l.toArray j) (fun k hk => hcl j (by omega) hlj k hk) i hj
              rw [h4] at hun; cases hun
        -- the facts that it needs
        have hJ : ∀ f ∈ fltF l.toArray o (fsA [] (ps.take i)), ∃ j : Nat, ps[j]? = some (f.1, Post.rel f.2) ∧ listed.getD j true = true := by
          intro f hf
          obtain ⟨h1, h2⟩ := List.mem_filter.1 hf
          rcases (mem_fsA _ _ _).1 h1 with h | ⟨j, hj⟩
          · cases h
          · rw [List.getElem?_take] at hj
            split at hj
            · rename_i hji
              refine ⟨j, hj, ?_⟩
              rcases hturn f.1 (List.contains_iff_mem.1 h2) j _ hj rfl with h | h
              · exact h.2
              · omega
            · cases hj
        have hJn : ((fltF l.toArray o (fsA [] (ps.take i))).map (·.1)).Nodup := by
          have h1 : ((fsA [] (ps.take i)).map (·.1)).Nodup := fsA_nodup _ [] (by
            simp only [List.map_nil, List.nil_append]
            rw [List.map_take]
            exact (List.take_sublist _ _).nodup hnodup)
          exact ((List.filter_sublist (l := fsA [] (ps.take i)) (p := fun q => (o.looksAt l.toArray).contains q.1)).map (fun q : Fact => q.1)).nodup h1
        obtain ⟨hσ, Is, R, X, hIn, hIs, hperm, hsh, hdone⟩ := st.heap hJn hJ
        have hva : ∀ (j : Nat) p, ps[j]? = some p → listed.getD j true = true → ∃ v, a.tmps[p.1]? = some v ∧ a.tmps.getD p.1 undef = v ∧ p.2.ok v (hσ p.1) := by
          intro j p hp hlj
          obtain ⟨v, h1, h2⟩ := hdone j p hp hlj
          exact ⟨v, h1, by simp [Array.getD_eq_getD_getElem?, h1], h2⟩
        have hfa : ∀ q ∈ fltF l.toArray o (fsA [] (ps.take i)), q.2 (a.tmps.getD q.1 undef) (hσ q.1) := fun f hf => by
          obtain ⟨j, hj, hlj⟩ := hJ f hf
          obtain ⟨v, _, e, hok⟩ := hva j _ hj hlj
          show f.2 (a.tmps.getD f.1 undef) _
          rw [show a.tmps.getD f.1 undef = v from e]; exact hok
        have hilt : i < listed.size := by omega
        -- what is left over, and what is kept beside
        obtain ⟨hTL, hdst⟩ : (∀ b w, Fr N D ((List.map (fun f : Fact => (f.1, a.tmps.getD f.1 undef)) (fltF l.toArray o (fsA [] (ps.take i)))) ++ envA L (ps.take i)) b → SH B w0 w ((fltF l.toArray o (fsA [] (ps.take i))).flatMap (fun q => hσ q.1) ++ ((R.flatMap hσ ++ X) ++ (pd s cb listed ++ H))) →
            wpListIn (FW r) 0 P l.toArray (QR D B w0 q.1 q.2.ok ((fltF l.toArray o (fsA [] (ps.take i))).flatMap (fun q => hσ q.1) ++ ((R.flatMap hσ ++ X) ++ (pd s cb (listed.setIfInBounds i true) ++ H)))) [o] b w) ∧ (o.dst = some q.1 ∨ (o.dst = none ∧ (∃ k', q.2 = Post.rel (fun _ h => h = k')))) := by
          rcases hob with ⟨hd, eb, hel1, hob⟩ | ⟨hd, hu, hk, hob⟩
          · have hne : i ≠ s := fun e => by
              have := (ok.st i o hiT ho).2 e
              rw [this] at hd; cases hd
            have epd : pd s cb (listed.setIfInBounds i true) = pd s cb listed := by unfold pd; rw [set_getD, if_neg hne]
            rw [epd]
            refine ⟨fun b w hb hw => ?_, .inl hd⟩
            cases eb with
            | false =>
              have h1 := AllF_inst (fun k => a.tmps.getD k undef) hσ _ _ hob hfa ((R.flatMap hσ ++ X) ++ pd s cb listed)
              simp only [Bool.false_eq_true, if_false] at h1
              rw [show ((R.flatMap hσ ++ X) ++ pd s cb listed) ++ H = (R.flatMap hσ ++ X) ++ (pd s cb listed ++ H) from List.append_assoc _ _ _] at h1
              exact h1 b w hb hw
            | true =>
              have hsl : s < l.length := Nat.lt_of_lt_of_le hsT ok.ok.hT
              have e1 : pd s cb listed = cb := by
                unfold pd; rw [if_neg]
                intro hls
                have h4 := reach_listed hcl (by simpa using hsz) l.length (depsL l.toArray s) (fun k hk => hcl s (by omega) hls k hk) i (hel i (hel1 rfl))
                rw [h4] at hun; cases hun
              rw [e1] at hw ⊢
              have h1 := AllF_inst (fun k => a.tmps.getD k undef) hσ _ _ hob hfa (R.flatMap hσ ++ X)
              exact h1 b w hb hw
          · have es : i = s := (ok.st i o hiT ho).1 hd
            subst es
            have e1 : pd i cb listed = cb := by
              unfold pd; rw [if_neg]
              have : listed.getD i true = false := hun
              rw [this]; simp
            have e2 : pd i cb (listed.setIfInBounds i true) = [] := by unfold pd; rw [set_getD, if_pos rfl, if_pos rfl]
            rw [e1, e2]
            refine ⟨fun b w hb hw => ?_, .inr ⟨hd, hk⟩⟩
            exact AllF_inst (fun k => a.tmps.getD k undef) hσ _ _ hob hfa (R.flatMap hσ ++ X) b w hb hw
        -- the frame of its own walk
        obtain ⟨EE, hEE⟩ : ∃ EE, EE = (List.map (fun f : Fact => (f.1, a.tmps.getD f.1 undef)) (fltF l.toArray o (fsA [] (ps.take i)))) ++ envA L (ps.take i) := ⟨_, rfl⟩
        rw [← hEE] at hTL
        have hkN : ∀ k v, lk EE k = some v → k < N := by
          intro k v h
          rw [hEE, lk_append] at h
          cases hl : lk (List.map (fun f : Fact => (f.1, a.tmps.getD f.1 undef)) (fltF l.toArray o (fsA [] (ps.take i)))) k with
          | some u =>
            obtain ⟨_, f, hf, rfl⟩ := lk_map_some (va := fun k => a.tmps.getD k undef) hl
            obtain ⟨j, hj, _⟩ := hJ f hf
            obtain ⟨_, p, _, h2, h4, _⟩ := hpl j (hidx j _ hj)
            rw [hj] at h2; cases h2; exact h4
          | none =>
            rw [hl] at h
            rcases lk_envA _ _ _ _ h with ⟨j, c, h1, _⟩ | ⟨h1, _⟩
            · rw [List.getElem?_take] at h1
              split at h1
              · obtain ⟨_, p, _, h2, h4, _⟩ := hpl j (hidx j _ h1)
                rw [h1] at h2; cases h2; exact h4
              · cases h1
            · exact hLN k v h1
        let b : Act := { tmps := Array.ofFn (n := N) (fun k => match lk EE k with | some v => v | none => a.tmps.getD k undef), defers := a.defers }
        have hbget : ∀ k, k < N → b.tmps[k]? = some (match lk EE k with | some v => v | none => a.tmps.getD k undef) := by
          intro k hk
          simp [b, hk]
        have hFr : Fr N D EE b := ⟨by simp [b], st.defers, fun k v hk => by rw [hbget k (hkN k v hk), hk]⟩
        have hagree : ∀ t ∈ o.looksAt l.toArray, b.tmps.getD t undef = a.tmps.getD t undef := by
          intro t ht
          rcases Nat.lt_or_ge t N with htN | htN
          · rw [Array.getD_eq_getD_getElem?, hbget t htN]
            cases hl : lk EE t with
            | none => rfl
            | some v =>
              have := st.lookup (i := i) (J := fltF l.toArray o (fsA [] (ps.take i))) (t := t) (v := v) (hturn t ht) hJ
                (fun f hf hft => List.mem_filter.2 ⟨hf, List.contains_iff_mem.2 (hft ▸ ht)⟩) (by rw [hEE] at hl; exact hl)
              simp [this]
          · have h1 : b.tmps[t]? = none := by simp [b]; exact htN
            have h2 : a.tmps[t]? = none := by simp [st.size]; exact htN
            simp [Array.getD_eq_getD_getElem?, h1, h2]
        have hw0 := hTL b w hFr hsh
        -- what comes of it
        have hnext : ∀ (v v2 : Value) (w' : World) (h : Hp), (a.put o.dst v).tmps[q.1]? = some v2 → q.2.ok v2 h → SH B w0 w' (h ++ ((fltF l.toArray o (fsA [] (ps.take i))).flatMap (fun q => hσ q.1) ++ ((R.flatMap hσ ++ X) ++ (pd s cb (listed.setIfInBounds i true) ++ H)))) →
            wpAnyIn (FW r) 0 P .any l.toArray Q fuel (listed.setIfInBounds i true) (a.put o.dst v) w' := by
          intro v v2 w' h hq2 hok hsh'
          refine ih _ _ _ (by simpa using hsz) ?_ (hcl.set fun k hk => (getD_true (hdeps k hk)).1) (fun j hj hjl => ?_) ?_
          · have e : (listed.setIfInBounds i true).toList = listed.toList.set i true := by simp
            rw [e, List.count_set (by simpa using hilt)]
            have : listed.toList[i]'(by simpa using hilt) = false := by simp [hilt] at hun; simpa using hun
            simp [this, hcnt]
          · rw [set_getD, if_neg (by omega)]; exact hto j hj hjl
          · have hq1 : ∀ t, t ≠ q.1 → (a.put o.dst v).tmps[t]? = a.tmps[t]? := by
              intro t ht
              rcases hdst with hdst | ⟨hdst, _⟩ <;> rw [hdst]
              · simp [Act.put, Array.getElem?_setIfInBounds_ne (Ne.symm ht)]
              · rfl
            have hasz : (a.put o.dst v).tmps.size = N := by
              rcases hdst with hdst | ⟨hdst, _⟩ <;> rw [hdst]
              · simp [Act.put, st.size]
              · exact st.size
            have hadf : (a.put o.dst v).defers = D := by
              rcases hdst with hdst | ⟨hdst, _⟩ <;> rw [hdst] <;> exact st.defers
            refine ⟨hasz, hadf, fun t u ht hno => ?_, ?_⟩
            · have hne : t ≠ q.1 := by
                rintro rfl
                have := hno i q hq rfl
                rw [set_getD, if_pos rfl] at this
                cases this
              rw [hq1 t hne]
              refine st.base t u ht (fun j p hp hpt => ?_)
              have := hno j p hp hpt
              rw [set_getD] at this
              split at this
              · cases this
              · exact this
            · have hqI : q.1 ∉ Is := by
                intro hm
                obtain ⟨j, p, hp, hpq, hlj⟩ := (hIs _).1 hm
                have := huniq j i p q hp hq hpq
                subst this
                rw [hlj] at hun; cases hun
              refine ⟨fun d => if d = q.1 then h else hσ d, q.1 :: Is, X, List.nodup_cons.2 ⟨hqI, hIn⟩, fun d => ?_, ?_, fun j p hp hlj => ?_⟩
              · rw [List.mem_cons, hIs]
                constructor
                · rintro (rfl | ⟨j, p, hp, hpd, hlj⟩)
                  · exact ⟨i, q, hq, rfl, by rw [set_getD, if_pos rfl]⟩
                  · refine ⟨j, p, hp, hpd, ?_⟩
                    rw [set_getD]; split
                    · rfl
                    · exact hlj
                · rintro ⟨j, p, hp, hpd, hlj⟩
                  by_cases e : i = j
                  · subst e
                    rw [hq] at hp; cases hp
                    exact .inl hpd.symm
                  · rw [set_getD, if_neg e] at hlj
                    exact .inr ⟨j, p, hp, hpd, hlj⟩
              · refine hsh'.perm ?_
                rw [List.flatMap_cons, if_pos rfl, flatMap_congr' (g := hσ) (fun d hd => by
                  have hne : d ≠ q.1 := by rintro rfl; exact hqI hd
                  rw [if_neg hne])]
                have := (hperm.append_right (X ++ (pd s cb (listed.setIfInBounds i true) ++ H)))
                rw [List.append_assoc]
                refine List.Perm.append_left h ?_
                simpa [List.append_assoc] using this
              · by_cases e : i = j
                · subst e
                  rw [hq] at hp; cases hp
                  exact ⟨v2, hq2, by simpa using hok⟩
                · rw [set_getD, if_neg e] at hlj
                  obtain ⟨u, h1, h2⟩ := hdone j p hp hlj
                  have hne : p.1 ≠ q.1 := fun e' => e (huniq i j q p hq hp e'.symm)
                  exact ⟨u, by rw [hq1 _ hne]; exact h1, by simpa [hne] using h2⟩
        have hread : ∀ (v : Value) (w' : World), wpListIn (FW r) 0 P l.toArray (QR D B w0 q.1 q.2.ok ((fltF l.toArray o (fsA [] (ps.take i))).flatMap (fun q => hσ q.1) ++ ((R.flatMap hσ ++ X) ++ (pd s cb (listed.setIfInBounds i true) ++ H)))) [] (b.put o.dst v) w' →
            wpAnyIn (FW r) 0 P .any l.toArray Q fuel (listed.setIfInBounds i true) (a.put o.dst v) w' := by
          rintro v w' ⟨_, _, v', h, hv', hok, hsh'⟩
          have hsz' : b.tmps.size = N := by simp [b]
          rcases hdst with hdst | ⟨hdst, k', hk⟩
          · have : v' = v := by
              rw [hdst] at hv'
              simp [Act.put, hsz', hdN] at hv'
              exact hv'.symm
            subst this
            exact hnext v' v' w' h (by rw [hdst]; simp [Act.put, st.size, hdN]) hok hsh'
          · have hlt : q.1 < a.tmps.size := by rw [st.size]; exact hdN
            refine hnext v a.tmps[q.1] w' h (by rw [hdst]; exact Array.getElem?_eq_getElem hlt) ?_ hsh'
            rw [hk] at hok ⊢
            exact hok
        have hplain := ok.ok.plain o (List.mem_of_getElem? ho)
        have hnd : ∀ c, o.op ≠ .defer c := fun c e => by rw [e] at hplain; cases hplain
        have hns : ∀ cs bb, o.op ≠ .select cs bb := fun c bb e => by rw [e] at hplain; cases hplain
        have hexec : execOp b.eval o = execOp a.eval o := execOp_congr o hns (eval_congr hagree)
        unfold wpOpIn
        simp only [List.getElem?_toArray, ho]
        unfold wpListIn at hw0
        rw [wanted_congr hagree] at hw0
        split
        · rename_i hwant
          rw [if_pos hwant] at hw0
          refine ⟨fun _ _ => trivial, ?_⟩
          have h2 := hw0.2
          rw [semAt_any hnd, hexec] at h2
          rw [semAt_any hnd]
          generalize (execOp a.eval o).run P w = res at *
          cases res with
          | ok x w' =>
            cases x <;> simp only [Oper.uponIn] at h2 ⊢
            case value v => exact hread v w' h2
            case skip => exact hread _ w' h2
            case enter f args =>
              refine ⟨h2.1, CallsIn.mono h2.2 fun e w'' he => ?_⟩
              cases e with
              | returned v => exact hread v w'' he
              | panicked ch => cases he.1
              | outgrown => obtain ⟨_, _, he⟩ := he; cases he.1
            case row row args => exact ⟨h2.1, RowsIn.mono h2.2 fun v w'' he => hread v w'' he⟩
            case round lp f tm asg bd =>
              refine ⟨h2.1, RoundIn.mono h2.2 fun e w'' he => ?_⟩
              cases e with
              | returned v => exact hread v w'' he
              | panicked ch => cases he.1
              | outgrown => obtain ⟨_, _, he⟩ := he; cases he.1
            case defer dd =>
              exfalso
              have h3 : dd :: b.defers = D := by
                have := h2.2.1
                rcases hdst with hdst | ⟨hdst, _⟩ <;> rw [hdst] at this <;> exact this
              have h4 : b.defers = D := hFr.defers
              rw [h4] at h3
              have := congrArg List.length h3
              simp at this
          | halt x w' =>
            cases x <;> simp only [Oper.uponIn] at h2 ⊢
            case panic v => cases h2.1
        · rename_i hwant
          rw [if_neg hwant] at hw0
          exact ⟨fun _ _ => trivial, hread _ _ hw0.2⟩


theorem TC_draw5 {id : Nat} {l : List Oper} (T s u n : Nat) (el : List Nat) {bk : Nat × Blk} {ps : List (Nat × Post)} (hn : atN n H = some bk) (hc : drawOk2 l T s u = true) (hsT : Nat.blt s T = true) (hm : P.follows .mixedOrders = true) (he : earlyOk l s el = true) (hPG : PG5 r P N D B w0 (dropAt n H) [bk] u l.toArray el 0 (l.take T) L [] ps)
    (hK : AllF (fsA [] ps) fun EF G => TL r P Q N D B w0 (EF ++ envA L ps) (G ++ dropAt n H) l.toArray (l.drop T)) : TC r P Q N D B w0 L H (.region id l.toArray true) := by
  intro a w hf hs0
  have hs : SH B w0 w ([bk] ++ dropAt n H) := hs0.perm (dropAt_perm n H bk hn)
  have ok := drawOk2_spec hc
  obtain ⟨hlen, hps⟩ := PG5_spec hPG
  have hT : T = ps.length := by rw [← hlen, List.length_take]; have := ok.ok.hT; omega
  have hsT : s < T := by simpa using hsT
  refine wpIn_region_any hm ?_
  have hrep : ∀ i, i < l.length → (Array.replicate l.toArray.size false).getD i true = false := fun i hi => by simp [hi]
  have hsl : s < l.length := by have := ok.ok.hT; omega
  refine wpAny_stage5 (s := s) (u := u) (cb := [bk]) (el := el) ok hsT (earlyOk_spec he) (fun k v h => ?_) hT (fun i o h => by simpa using hps i o h) hK _ _ a _ (by simp) (by simp) ?_ (fun i _ hi => by simpa using hrep i hi) ⟨hf.size, hf.defers, fun t v h _ => hf.get t v h, fun _ => [], [], [], List.nodup_nil, fun d => ?_, ?_, fun j q hj hl => ?_⟩
  · have := (Array.getElem?_eq_some_iff.1 (hf.get k v h)).1
    rw [hf.size] at this; exact this
  · intro i hi hli
    exfalso
    have h1 : i < l.length := by simpa using hi
    rw [hrep i h1] at hli; cases hli
  · constructor
    · intro h; cases h
    · rintro ⟨j, q, hj, _, hl⟩
      exfalso
      have h1 : j < l.length := by have := (List.getElem?_eq_some_iff.1 hj).1; have := ok.ok.hT; omega
      rw [hrep j h1] at hl; cases hl
  · have : pd s [bk] (Array.replicate l.toArray.size false) = [bk] := by unfold pd; rw [if_neg]; rw [hrep s hsl]; simp
    rw [this]
    exact hs.drew
  · exfalso
    have h1 : j < l.length := by have := (List.getElem?_eq_some_iff.1 hj).1; have := ok.ok.hT; omega
    rw [hrep j h1] at hl; cases hl
theorem pv5 {i : Nat} {o : Oper} {E : Env} {Fs : List Fact} {d : Nat} {c : Value} {ps : List (Nat × Post)} (k : PG5 r P N D B w0 H cb u ops el (i + 1) rest ((d, c) :: E) Fs ps) (h1 : o.dst = some d := by exact rfl) (h2 : Nat.blt d N = true := by exact rfl)
    (h3 : AllF (fltF ops o Fs) (fun EF G => ∀ X : Hp, TL r P (QV D B w0 d c (G ++ (X ++ H))) N D B w0 (EF ++ E) (G ++ (X ++ H)) ops [o]) := by
      intro _X
      refine r1 ?_
      apply TL_nil
      exact TQ_QV rfl (fun _ h => h)) : PG5 r P N D B w0 H cb u ops el i (o :: rest) E Fs ((d, .val c) :: ps) := PG5.val h1 h2 h3 k
end
end Go.Eng
/- The engine: drawn regions in which one operation that yields a value turns some blocks, and those that it waits for may look at these (made by mkg.py out of EngQ's text). -/
namespace Go.Eng
open Go Go.RowKit
section
variable (r : Option Nat) (P : Program) (N : Nat) (D : List Deferred) (B : Nat) (w0 : World) (H : Hp) (cb : Hp) (s : Nat) (ops : Array Oper) (el : List Nat)
inductive PG6 : Nat → List Oper → Env → List Fact → List (Nat × Post) → Prop
  | nil {i E Fs} : PG6 i [] E Fs []
  | val {i o rest E Fs d c ps} : o.dst = some d → Nat.blt d N = true → Nat.beq i s = false → (AllF (fltF ops o Fs) fun EF G => ∀ X : Hp, TL r P (QV D B w0 d c (G ++ (X ++ H))) N D B w0 (EF ++ E) (G ++ (X ++ H)) ops [o]) →
      PG6 (i + 1) rest ((d, c) :: E) Fs ps → PG6 i (o :: rest) E Fs ((d, .val c) :: ps)
  | rel {i o rest E Fs d ps} (Φ : Value → Hp → Prop) : o.dst = some d → Nat.blt d N = true → Nat.beq i s = false → (AllF (fltF ops o Fs) fun EF G => ∀ X : Hp, TL r P (QR D B w0 d Φ (G ++ (X ++ H))) N D B w0 (EF ++ E) (G ++ (X ++ H)) ops [o]) →
      PG6 (i + 1) rest E ((d, Φ) :: Fs) ps → PG6 i (o :: rest) E Fs ((d, .rel Φ) :: ps)
  | vale {i o rest E Fs d c ps} : o.dst = some d → Nat.blt d N = true → Nat.beq i s = false → el.contains i = true → (AllF (fltF ops o Fs) fun EF G => ∀ X : Hp, TL r P (QV D B w0 d c (G ++ (X ++ (cb ++ H)))) N D B w0 (EF ++ E) (G ++ (X ++ (cb ++ H))) ops [o]) →
      PG6 (i + 1) rest ((d, c) :: E) Fs ps → PG6 i (o :: rest) E Fs ((d, .val c) :: ps)
  | big {i o rest E Fs d ps} (Φ : Value → Hp → Prop) : o.dst = some d → Nat.blt d N = true → Nat.beq i s = true → (AllF (fltF ops o Fs) fun EF G => ∀ X : Hp, TL r P (QR D B w0 d Φ (G ++ (X ++ H))) N D B w0 (EF ++ E) (G ++ (X ++ (cb ++ H))) ops [o]) →
      PG6 (i + 1) rest E ((d, Φ) :: Fs) ps → PG6 i (o :: rest) E Fs ((d, .rel Φ) :: ps)
end
section
variable {r : Option Nat} {P : Program} {Q : Exit → Act → World → Prop} {N : Nat} {D : List Deferred} {B : Nat} {w0 : World} {L : Env} {H : Hp} {ops : Array Oper} {rest : List Oper} {cb : Hp} {s : Nat} {el : List Nat}
theorem wpAny_stage_done6 {l : List Oper} {T : Nat} {ps : List (Nat × Post)} (ok : DrawOK l T) (hlen : T = ps.length)
    (hidx : ∀ (i : Nat) q, ps[i]? = some q → i < T) (hnodup : (ps.map (·.1)).Nodup)
    (hK : AllF (fsA [] ps) fun EF G => TL r P Q N D B w0 (EF ++ envA L ps) (G ++ H) l.toArray (l.drop T)) {listed : Array Bool} {a : Act} {w : World} (hsz : listed.size = l.length)
    (hall : ∀ i, i < T → listed.getD i true = true) (hto : ∀ i, T ≤ i → i < l.length → listed.getD i true = false) (st : Stage2 l T ps N D B w0 L H s cb listed a w) (fuel : Nat) (hf : fuel + T = l.length) :
    wpAnyIn (FW r) 0 P .any l.toArray Q fuel listed a w := by
  refine wpAny_tail ok fuel T listed a w hsz (fun i hi => ?_) (Nat.le_refl _) hf ?_
  · rcases Nat.lt_or_ge i T with h | h
    · rw [hall i h]; simp [h]
    · rw [hto i h hi]; simp; omega
  · have hJ : ∀ q ∈ fsA [] ps, ∃ j : Nat, ps[j]? = some (q.1, Post.rel q.2) ∧ listed.getD j true = true := fun q hq => by
      rcases (mem_fsA _ _ _).1 hq with h | ⟨j, hj⟩
      · cases h
      · exact ⟨j, hj, hall j (hidx j _ hj)⟩
    have hJn : ((fsA [] ps).map (·.1)).Nodup := fsA_nodup ps [] (by simpa using hnodup)
    obtain ⟨hσ, Is, R, X, _, _, _, hsh, hdone⟩ := st.heap hJn hJ
    have := AllF_inst (fun k => a.tmps.getD k undef) hσ _ _ hK (fun q hq => by
      obtain ⟨j, hj, hlj⟩ := hJ q hq
      obtain ⟨v, hv, hok⟩ := hdone j _ hj hlj
      have e : a.tmps.getD q.1 undef = v := by simp only at hv; simp [Array.getD_eq_getD_getElem?, hv]
      show q.2 (a.tmps.getD q.1 undef) _
      rw [e]; exact hok)
    refine this a w ⟨st.size, st.defers, fun t v h => ?_⟩ (hsh.sub ?_)
    · have hps : ps.take T = ps := by rw [hlen]; exact List.take_length
      refine st.lookup (i := T) (J := fsA [] ps) (fun j q hj _ => .inl ⟨hidx j q hj, hall j (hidx j q hj)⟩) hJ (fun q hq _ => by rw [hps] at hq; exact hq) (by rw [hps]; exact h)
    · refine (List.Sublist.append_left ?_ _)
      exact (List.sublist_append_right _ _).trans (List.sublist_append_right _ _)

theorem PG6_spec {i0 : Nat} {l : List Oper} {E : Env} {Fs : List Fact} {ps : List (Nat × Post)} (h : PG6 r P N D B w0 H cb s ops el i0 l E Fs ps) :
    l.length = ps.length ∧ ∀ (i : Nat) o, l[i]? = some o → ∃ q, ps[i]? = some q ∧ q.1 < N ∧ ((o.dst = some q.1 ∧ i0 + i ≠ s ∧ ∃ eb : Bool, (eb = true → el.contains (i0 + i) = true) ∧ ObR r P N D B w0 (if eb then cb ++ H else H) ops o q (envA E (ps.take i)) (fsA Fs (ps.take i))) ∨ (o.dst = some q.1 ∧ i0 + i = s ∧ ObS r P N D B w0 H cb ops o q (envA E (ps.take i)) (fsA Fs (ps.take i)))) := by
  have nb : ∀ {i : Nat}, Nat.beq i s = false → i ≠ s := fun h e => by rw [e, Nat.beq_refl] at h; cases h
  have qv : ∀ {e : Exit} {a : Act} {w : World} {d : Nat} {c : Value} {H' : Hp}, QV D B w0 d c H' e a w → QR D B w0 d (Post.val c).ok H' e a w := fun ⟨h1, h0, h2, h3⟩ => ⟨h1, h0, _, [], h2, ⟨rfl, rfl⟩, h3⟩
  induction h with
  | nil => exact ⟨rfl, fun i o h => by simp at h⟩
  | val hd hN hi hob _ ih =>
    rename_i i1 o0 rest0 E0 Fs0 d0 c0 ps0 _
    refine ⟨by simp [ih.1], fun i o h => ?_⟩
    cases i with
    | zero =>
      simp at h; subst h
      refine ⟨_, rfl, by simpa using hN, .inl ⟨hd, nb hi, false, fun h => (by cases h), AllF.mono (fun EF G hh X => (hh X).mono_Q (fun e a w h => qv h)) hob⟩⟩
    | succ i =>
      obtain ⟨q, h1, h2⟩ := ih.2 i o (by simpa using h)
      refine ⟨q, by simpa using h1, ?_⟩
      rw [show i1 + (i + 1) = i1 + 1 + i by omega]; exact h2
  | rel Φ hd hN hi hob _ ih =>
    rename_i i1 o0 rest0 E0 Fs0 d0 ps0 _
    refine ⟨by simp [ih.1], fun i o h => ?_⟩
    cases i with
    | zero =>
      simp at h; subst h
      refine ⟨_, rfl, by simpa using hN, .inl ⟨hd, nb hi, false, fun h => (by cases h), hob⟩⟩
    | succ i =>
      obtain ⟨q, h1, h2⟩ := ih.2 i o (by simpa using h)
      refine ⟨q, by simpa using h1, ?_⟩
      rw [show i1 + (i + 1) = i1 + 1 + i by omega]; exact h2
  | vale hd hN hi hel hob _ ih =>
    rename_i i1 o0 rest0 E0 Fs0 d0 c0 ps0 _
    refine ⟨by simp [ih.1], fun i o h => ?_⟩
    cases i with
    | zero =>
      simp at h; subst h
      refine ⟨_, rfl, by simpa using hN, .inl ⟨hd, nb hi, true, fun _ => hel, AllF.mono (fun EF G hh X => (hh X).mono_Q (fun e a w h => qv h)) hob⟩⟩
    | succ i =>
      obtain ⟨q, h1, h2⟩ := ih.2 i o (by simpa using h)
      refine ⟨q, by simpa using h1, ?_⟩
      rw [show i1 + (i + 1) = i1 + 1 + i by omega]; exact h2
  | big Φ hd hN hi hob _ ih =>
    rename_i i1 o0 rest0 E0 Fs0 d0 ps0 _
    refine ⟨by simp [ih.1], fun i o h => ?_⟩
    cases i with
    | zero =>
      simp at h; subst h
      refine ⟨_, rfl, by simpa using hN, .inr ⟨hd, by simpa using Nat.eq_of_beq_eq_true hi, hob⟩⟩
    | succ i =>
      obtain ⟨q, h1, h2⟩ := ih.2 i o (by simpa using h)
      refine ⟨q, by simpa using h1, ?_⟩
      rw [show i1 + (i + 1) = i1 + 1 + i by omega]; exact h2
theorem wpAny_stage6 {l : List Oper} {T : Nat} {ps : List (Nat × Post)} (ok : DrawOK l T) (hsT : s < T) (hel : ∀ i, el.contains i = true → i ∈ reachN l.toArray l.length (depsL l.toArray s)) (hLN : ∀ k v, lk L k = some v → k < N) (hlen : T = ps.length)
    (hps : ∀ (i : Nat) o, (l.take T)[i]? = some o → ∃ q, ps[i]? = some q ∧ q.1 < N ∧ ((o.dst = some q.1 ∧ i ≠ s ∧ ∃ eb : Bool, (eb = true → el.contains i = true) ∧ ObR r P N D B w0 (if eb then cb ++ H else H) l.toArray o q (envA L (ps.take i)) (fsA [] (ps.take i))) ∨ (o.dst = some q.1 ∧ i = s ∧ ObS r P N D B w0 H cb l.toArray o q (envA L (ps.take i)) (fsA [] (ps.take i)))))
    (hK : AllF (fsA [] ps) fun EF G => TL r P Q N D B w0 (EF ++ envA L ps) (G ++ H) l.toArray (l.drop T)) :
    ∀ (fuel : Nat) (listed : Array Bool) (a : Act) (w : World), listed.size = l.length → (listed.toList.count false) = fuel → Closed l.toArray listed → (∀ i, T ≤ i → i < l.length → listed.getD i true = false) →
      Stage2 l T ps N D B w0 L H s cb listed a w → wpAnyIn (FW r) 0 P .any l.toArray Q fuel listed a w := by
  have hpl : ∀ i, i < T → ∃ o q, l[i]? = some o ∧ ps[i]? = some q ∧ q.1 < N ∧ ((o.dst = some q.1 ∧ i ≠ s ∧ ∃ eb : Bool, (eb = true → el.contains i = true) ∧ ObR r P N D B w0 (if eb then cb ++ H else H) l.toArray o q (envA L (ps.take i)) (fsA [] (ps.take i))) ∨ (o.dst = some q.1 ∧ i = s ∧ ObS r P N D B w0 H cb l.toArray o q (envA L (ps.take i)) (fsA [] (ps.take i)))) := by
    intro i hi
    have hil : i < l.length := Nat.lt_of_lt_of_le hi ok.hT
    have : (l.take T)[i]? = some l[i] := by rw [List.getElem?_take, if_pos hi, List.getElem?_eq_getElem hil]
    obtain ⟨q, h1, h2, h3⟩ := hps i _ this
    exact ⟨l[i], q, List.getElem?_eq_getElem hil, h1, h2, h3⟩
  have hidx : ∀ (i : Nat) q, ps[i]? = some q → i < T := fun i q h => by rw [hlen]; exact (List.getElem?_eq_some_iff.1 h).1
  have huniq : ∀ (i j : Nat) q p, ps[i]? = some q → ps[j]? = some p → q.1 = p.1 → i = j := by
    intro i j q p hi hj e
    by_cases hne : i = j
    · exact hne
    · obtain ⟨oi, qi, h1, h2, _, h3⟩ := hpl i (hidx i q hi)
      obtain ⟨oj, qj, h4, h5, _, h6⟩ := hpl j (hidx j p hj)
      rw [hi] at h2; rw [hj] at h5
      cases h2; cases h5
      have h3' : oi.dst = some q.1 := by rcases h3 with h | h <;> exact h.1
      have h6' : oj.dst = some p.1 := by rcases h6 with h | h <;> exact h.1
      exact absurd (by rw [h3', h6', e]) (ok.dist i j oi oj (hidx i _ hi) (hidx j _ hj) hne h1 h4)
  have hnodup : (ps.map (·.1)).Nodup := by
    rw [List.nodup_iff_pairwise_ne, List.pairwise_iff_getElem]
    intro i j hi hj hij e
    rw [List.getElem_map, List.getElem_map] at e
    have hi' : i < ps.length := by simpa using hi
    have hj' : j < ps.length := by simpa using hj
    have := huniq i j _ _ (List.getElem?_eq_getElem hi') (List.getElem?_eq_getElem hj') e
    omega
  intro fuel
  induction fuel with
  | zero =>
    intro listed a w hsz hcnt hcl hto st
    exact (wpAny_stage_done6 ok hlen hidx hnodup hK hsz (fun i hi => by
      cases hc : listed.getD i true with
      | true => rfl
      | false =>
        exfalso
        have hlt : i < listed.size := by have := ok.hT; omega
        have : false ∈ listed.toList := by
          simp [hlt] at hc
          rw [← hc]; exact Array.getElem_mem_toList _
        exact absurd hcnt (by have := List.count_pos_iff.2 this; omega)) hto st 0 (by
      have : T = l.length := by
        rcases Nat.lt_or_ge T l.length with h | h
        · exfalso
          have h1 := hto T (Nat.le_refl _) h
          have hlt : T < listed.size := by omega
          have : false ∈ listed.toList := by
            simp [hlt] at h1
            rw [← h1]; exact Array.getElem_mem_toList _
          exact absurd hcnt (by have := List.count_pos_iff.2 this; omega)
        · have := ok.hT; omega
      omega))
  | succ fuel ih =>
    intro listed a w hsz hcnt hcl hto st
    by_cases hall : ∀ i, i < T → listed.getD i true = true
    · -- the tail begins
      have hf : fuel + 1 + T = l.length := by
        have h1 : ∀ (m : List Bool) (T : Nat), T ≤ m.length → (∀ i, i < T → m[i]? = some true) → (∀ i, T ≤ i → i < m.length → m[i]? = some false) → m.count false + T = m.length := by
          intro m
          induction m with
          | nil => intro T h _ _; simp at h; simp [h]
          | cons x m ihm =>
            intro T hT ht hf
            cases T with
            | zero =>
              have hx : x = false := by have := hf 0 (Nat.le_refl _) (by simp); simpa using this
              have := ihm 0 (Nat.zero_le _) (fun i hi => by omega) (fun i _ hi => by have := hf (i + 1) (by omega) (by simp; omega); simpa using this)
              subst hx
              simp at this ⊢; omega
            | succ T =>
              have hx : x = true := by have := ht 0 (by omega); simpa using this
              have := ihm T (by simpa using hT) (fun i hi => by have := ht (i + 1) (by omega); simpa using this) (fun i hi hil => by have := hf (i + 1) (by omega) (by simp; omega); simpa using this)
              subst hx
              simp at this ⊢; omega
        have := h1 listed.toList T (by have := ok.hT; simp; omega) (fun i hi => by
          have hlt : i < listed.size := by have := ok.hT; omega
          have := hall i hi
          simp [hlt] at this ⊢; exact this) (fun i hi hil => by
          have hlt : i < listed.size := by simpa using hil
          have := hto i hi (by omega)
          simp [hlt] at this ⊢; exact this)
        rw [hcnt] at this
        simp at this; omega
      exact wpAny_stage_done6 ok hlen hidx hnodup hK hsz hall hto st _ hf
    · have hnot : ∃ i, i < T ∧ listed.getD i true = false := by
        refine Classical.byContradiction fun hn => hall fun i hi => ?_
        cases hc : listed.getD i true with
        | true => rfl
        | false => exact absurd ⟨i, hi, hc⟩ hn
      refine ⟨fun hnil => ?_, fun i hi => ?_⟩
      · obtain ⟨i, hiT, hc⟩ := hnot
        have := ready_nil hsz ok.back hnil i (by have := ok.hT; omega)
        rw [this] at hc; cases hc
      · obtain ⟨hun, ⟨o, ho⟩, hdeps⟩ := ready_deps hi
        have hil : i < l.length := (List.getElem?_eq_some_iff.1 ho).1
        have hiT : i < T := by
          rcases Nat.lt_or_ge i T with h | h
          · exact h
          · exfalso
            obtain ⟨j, hjT, hc⟩ := hnot
            have h3 := ok.tail i h hil j (by omega)
            have h4 := reach_listed hcl (by simpa using hsz) l.length (depsL l.toArray i) (fun k hk => (getD_true (hdeps k hk)).1) j h3
            rw [h4] at hc; cases hc
        obtain ⟨o', q, ho', hq, hdN, hob⟩ := hpl i hiT
        rw [ho] at ho'
        cases ho'
        -- what it looks at has been written in turn
        have hturn : ∀ t ∈ o.looksAt l.toArray, ∀ (j : Nat) p, ps[j]? = some p → p.1 = t → (j < i ∧ listed.getD j true = true) ∨ (i < j ∧ listed.getD j true = false) := by
          intro t ht j p hp hpt
          obtain ⟨oj, pj, h1, h2, _, h3⟩ := hpl j (hidx j p hp)
          rw [hp] at h2
          cases h2
          have h3 : oj.dst = some p.1 := by
            rcases h3 with h | h <;> exact h.1
          have hj := ok.look i j t o oj hiT (hidx j p hp) h1 (by rw [h3, hpt]) ho ht
          rcases hj with hj | hj
          · exact .inl ⟨ok.back i hil j hj, (getD_true (hdeps j hj)).1⟩
          · have hjl : j < l.length := Nat.lt_of_lt_of_le (hidx j p hp) ok.hT
            refine .inr ⟨reach_lt ok.back l.length _ j (fun k hk => ok.back j hjl k hk) i hj (Nat.le_of_lt hjl), ?_⟩
            cases hlj : listed.getD j true with
            | false => rfl
            | true =>
              have h4 := reach_listed hcl (by simpa using hsz) l.length (depsL l.toArray j) (fun k hk => hcl j (by omega) hlj k hk) i hj
              rw [h4] at hun; cases hun
        -- the facts that it needs
        have hJ : ∀ f ∈ fltF l.toArray o (fsA [] (ps.take i)), ∃ j : Nat, ps[j]? = some (f.1, Post.rel f.2) ∧ listed.getD j true = true := by
          intro f hf
          obtain ⟨h1, h2⟩ := List.mem_filter.1 hf
          rcases (mem_fsA _ _ _).1 h1 with h | ⟨j, hj⟩
          · cases h
          · rw [List.getElem?_take] at hj
            split at hj
            · rename_i hji
              refine ⟨j, hj, ?_⟩
              rcases hturn f.1 (List.contains_iff_mem.1 h2) j _ hj rfl with h | h
              · exact h.2
              · omega
            · cases hj
        have hJn : ((fltF l.toArray o (fsA [] (ps.take i))).map (·.1)).Nodup := by
          have h1 : ((fsA [] (ps.take i)).map (·.1)).Nodup := fsA_nodup _ [] (by
            simp only [List.map_nil, List.nil_append]
            rw [List.map_take]
            exact (List.take_sublist _ _).nodup hnodup)
          exact ((List.filter_sublist (l := fsA [] (ps.take i)) (p := fun q => (o.looksAt l.toArray).contains q.1)).map (fun q : Fact => q.1)).nodup h1
        obtain ⟨hσ, Is, R, X, hIn, hIs, hperm, hsh, hdone⟩ := st.heap hJn hJ
        have hva : ∀ (j : Nat) p, ps[j]? = some p → listed.getD j true = true → ∃ v, a.tmps[p.1]? = some v ∧ a.tmps.getD p.1 undef = v ∧ p.2.ok v (hσ p.1) := by
          intro j p hp hlj
          obtain ⟨v, h1, h2⟩ := hdone j p hp hlj
          exact ⟨v, h1, by simp [Array.getD_eq_getD_getElem?, h1], h2⟩
        have hfa : ∀ q ∈ fltF l.toArray o (fsA [] (ps.take i)), q.2 (a.tmps.getD q.1 undef) (hσ q.1) := fun f hf => by
          obtain ⟨j, hj, hlj⟩ := hJ f hf
          obtain ⟨v, _, e, hok⟩ := hva j _ hj hlj
          show f.2 (a.tmps.getD f.1 undef) _
          rw [show a.tmps.getD f.1 undef = v from e]; exact hok
        have hilt : i < listed.size := by omega
        -- what is left over, and what is kept beside
        obtain ⟨hTL, hdst⟩ : (∀ b w, Fr N D ((List.map (fun f : Fact => (f.1, a.tmps.getD f.1 undef)) (fltF l.toArray o (fsA [] (ps.take i)))) ++ envA L (ps.take i)) b → SH B w0 w ((fltF l.toArray o (fsA [] (ps.take i))).flatMap (fun q => hσ q.1) ++ ((R.flatMap hσ ++ X) ++ (pd s cb listed ++ H))) →
            wpListIn (FW r) 0 P l.toArray (QR D B w0 q.1 q.2.ok ((fltF l.toArray o (fsA [] (ps.take i))).flatMap (fun q => hσ q.1) ++ ((R.flatMap hσ ++ X) ++ (pd s cb (listed.setIfInBounds i true) ++ H)))) [o] b w) ∧ o.dst = some q.1 := by
          rcases hob with ⟨hd, hne, eb, hel1, hob⟩ | ⟨hd, es, hob⟩
          · skip
            have epd : pd s cb (listed.setIfInBounds i true) = pd s cb listed := by unfold pd; rw [set_getD, if_neg hne]
            rw [epd]
            refine ⟨fun b w hb hw => ?_, hd⟩
            cases eb with
            | false =>
              have h1 := AllF_inst (fun k => a.tmps.getD k undef) hσ _ _ hob hfa ((R.flatMap hσ ++ X) ++ pd s cb listed)
              simp only [Bool.false_eq_true, if_false] at h1
              rw [show ((R.flatMap hσ ++ X) ++ pd s cb listed) ++ H = (R.flatMap hσ ++ X) ++ (pd s cb listed ++ H) from List.append_assoc _ _ _] at h1
              exact h1 b w hb hw
            | true =>
              have hsl : s < l.length := Nat.lt_of_lt_of_le hsT ok.hT
              have e1 : pd s cb listed = cb := by
                unfold pd; rw [if_neg]
                intro hls
                have h4 := reach_listed hcl (by simpa using hsz) l.length (depsL l.toArray s) (fun k hk => hcl s (by omega) hls k hk) i (hel i (hel1 rfl))
                rw [h4] at hun; cases hun
              rw [e1] at hw ⊢
              have h1 := AllF_inst (fun k => a.tmps.getD k undef) hσ _ _ hob hfa (R.flatMap hσ ++ X)
              exact h1 b w hb hw
          · subst es
            have e1 : pd i cb listed = cb := by
              unfold pd; rw [if_neg]
              have : listed.getD i true = false := hun
              rw [this]; simp
            have e2 : pd i cb (listed.setIfInBounds i true) = [] := by unfold pd; rw [set_getD, if_pos rfl, if_pos rfl]
            rw [e1, e2]
            refine ⟨fun b w hb hw => ?_, hd⟩
            exact AllF_inst (fun k => a.tmps.getD k undef) hσ _ _ hob hfa (R.flatMap hσ ++ X) b w hb hw
        -- the frame of its own walk
        obtain ⟨EE, hEE⟩ : ∃ EE, EE = (List.map (fun f : Fact => (f.1, a.tmps.getD f.1 undef)) (fltF l.toArray o (fsA [] (ps.take i)))) ++ envA L (ps.take i) := ⟨_, rfl⟩
        rw [← hEE] at hTL
        have hkN : ∀ k v, lk EE k = some v → k < N := by
          intro k v h
          rw [hEE, lk_append] at h
          cases hl : lk (List.map (fun f : Fact => (f.1, a.tmps.getD f.1 undef)) (fltF l.toArray o (fsA [] (ps.take i)))) k with
          | some u =>
            obtain ⟨_, f, hf, rfl⟩ := lk_map_some (va := fun k => a.tmps.getD k undef) hl
            obtain ⟨j, hj, _⟩ := hJ f hf
            obtain ⟨_, p, _, h2, h4, _⟩ := hpl j (hidx j _ hj)
            rw [hj] at h2; cases h2; exact h4
          | none =>
            rw [hl] at h
            rcases lk_envA _ _ _ _ h with ⟨j, c, h1, _⟩ | ⟨h1, _⟩
            · rw [List.getElem?_take] at h1
              split at h1
              · obtain ⟨_, p, _, h2, h4, _⟩ := hpl j (hidx j _ h1)
                rw [h1] at h2; cases h2; exact h4
              · cases h1
            · exact hLN k v h1
        let b : Act := { tmps := Array.ofFn (n := N) (fun k => match lk EE k with | some v => v | none => a.tmps.getD k undef), defers := a.defers }
        have hbget : ∀ k, k < N → b.tmps[k]? = some (match lk EE k with | some v => v | none => a.tmps.getD k undef) := by
          intro k hk
          simp [b, hk]
        have hFr : Fr N D EE b := ⟨by simp [b], st.defers, fun k v hk => by rw [hbget k (hkN k v hk), hk]⟩
        have hagree : ∀ t ∈ o.looksAt l.toArray, b.tmps.getD t undef = a.tmps.getD t undef := by
          intro t ht
          rcases Nat.lt_or_ge t N with htN | htN
          · rw [Array.getD_eq_getD_getElem?, hbget t htN]
            cases hl : lk EE t with
            | none => rfl
            | some v =>
              have := st.lookup (i := i) (J := fltF l.toArray o (fsA [] (ps.take i))) (t := t) (v := v) (hturn t ht) hJ
                (fun f hf hft => List.mem_filter.2 ⟨hf, List.contains_iff_mem.2 (hft ▸ ht)⟩) (by rw [hEE] at hl; exact hl)
              simp [this]
          · have h1 : b.tmps[t]? = none := by simp [b]; exact htN
            have h2 : a.tmps[t]? = none := by simp [st.size]; exact htN
            simp [Array.getD_eq_getD_getElem?, h1, h2]
        have hw0 := hTL b w hFr hsh
        -- what comes of it
        have hnext : ∀ (v v2 : Value) (w' : World) (h : Hp), (a.put o.dst v).tmps[q.1]? = some v2 → q.2.ok v2 h → SH B w0 w' (h ++ ((fltF l.toArray o (fsA [] (ps.take i))).flatMap (fun q => hσ q.1) ++ ((R.flatMap hσ ++ X) ++ (pd s cb (listed.setIfInBounds i true) ++ H)))) →
            wpAnyIn (FW r) 0 P .any l.toArray Q fuel (listed.setIfInBounds i true) (a.put o.dst v) w' := by
          intro v v2 w' h hq2 hok hsh'
          refine ih _ _ _ (by simpa using hsz) ?_ (hcl.set fun k hk => (getD_true (hdeps k hk)).1) (fun j hj hjl => ?_) ?_
          · have e : (listed.setIfInBounds i true).toList = listed.toList.set i true := by simp
            rw [e, List.count_set (by simpa using hilt)]
            have : listed.toList[i]'(by simpa using hilt) = false := by simp [hilt] at hun; simpa using hun
            simp [this, hcnt]
          · rw [set_getD, if_neg (by omega)]; exact hto j hj hjl
          · have hq1 : ∀ t, t ≠ q.1 → (a.put o.dst v).tmps[t]? = a.tmps[t]? := by
              intro t ht
              rw [hdst]
              simp [Act.put, Array.getElem?_setIfInBounds_ne (Ne.symm ht)]
            have hasz : (a.put o.dst v).tmps.size = N := by
              rw [hdst]
              simp [Act.put, st.size]
            have hadf : (a.put o.dst v).defers = D := by
              rw [hdst]; exact st.defers
            refine ⟨hasz, hadf, fun t u ht hno => ?_, ?_⟩
            · have hne : t ≠ q.1 := by
                rintro rfl
                have := hno i q hq rfl
                rw [set_getD, if_pos rfl] at this
                cases this
              rw [hq1 t hne]
              refine st.base t u ht (fun j p hp hpt => ?_)
              have := hno j p hp hpt
              rw [set_getD] at this
              split at this
              · cases this
              · exact this
            · have hqI : q.1 ∉ Is := by
                intro hm
                obtain ⟨j, p, hp, hpq, hlj⟩ := (hIs _).1 hm
                have := huniq j i p q hp hq hpq
                subst this
                rw [hlj] at hun; cases hun
              refine ⟨fun d => if d = q.1 then h else hσ d, q.1 :: Is, X, List.nodup_cons.2 ⟨hqI, hIn⟩, fun d => ?_, ?_, fun j p hp hlj => ?_⟩
              · rw [List.mem_cons, hIs]
                constructor
                · rintro (rfl | ⟨j, p, hp, hpd, hlj⟩)
                  · exact ⟨i, q, hq, rfl, by rw [set_getD, if_pos rfl]⟩
                  · refine ⟨j, p, hp, hpd, ?_⟩
                    rw [set_getD]; split
                    · rfl
                    · exact hlj
                · rintro ⟨j, p, hp, hpd, hlj⟩
                  by_cases e : i = j
                  · subst e
                    rw [hq] at hp; cases hp
                    exact .inl hpd.symm
                  · rw [set_getD, if_neg e] at hlj
                    exact .inr ⟨j, p, hp, hpd, hlj⟩
              · refine hsh'.perm ?_
                rw [List.flatMap_cons, if_pos rfl, flatMap_congr' (g := hσ) (fun d hd => by
                  have hne : d ≠ q.1 := by rintro rfl; exact hqI hd
                  rw [if_neg hne])]
                have := (hperm.append_right (X ++ (pd s cb (listed.setIfInBounds i true) ++ H)))
                rw [List.append_assoc]
                refine List.Perm.append_left h ?_
                simpa [List.append_assoc] using this
              · by_cases e : i = j
                · subst e
                  rw [hq] at hp; cases hp
                  exact ⟨v2, hq2, by simpa using hok⟩
                · rw [set_getD, if_neg e] at hlj
                  obtain ⟨u, h1, h2⟩ := hdone j p hp hlj
                  have hne : p.1 ≠ q.1 := fun e' => e (huniq i j q p hq hp e'.symm)
                  exact ⟨u, by rw [hq1 _ hne]; exact h1, by simpa [hne] using h2⟩
        have hread : ∀ (v : Value) (w' : World), wpListIn (FW r) 0 P l.toArray (QR D B w0 q.1 q.2.ok ((fltF l.toArray o (fsA [] (ps.take i))).flatMap (fun q => hσ q.1) ++ ((R.flatMap hσ ++ X) ++ (pd s cb (listed.setIfInBounds i true) ++ H)))) [] (b.put o.dst v) w' →
            wpAnyIn (FW r) 0 P .any l.toArray Q fuel (listed.setIfInBounds i true) (a.put o.dst v) w' := by
          rintro v w' ⟨_, _, v', h, hv', hok, hsh'⟩
          have hsz' : b.tmps.size = N := by simp [b]
          have : v' = v := by
            rw [hdst] at hv'
            simp [Act.put, hsz', hdN] at hv'
            exact hv'.symm
          subst this
          exact hnext v' v' w' h (by rw [hdst]; simp [Act.put, st.size, hdN]) hok hsh'
        have hplain := ok.plain o (List.mem_of_getElem? ho)
        have hnd : ∀ c, o.op ≠ .defer c := fun c e => by rw [e] at hplain; cases hplain
        have hns : ∀ cs bb, o.op ≠ .select cs bb := fun c bb e => by rw [e] at hplain; cases hplain
        have hexec : execOp b.eval o = execOp a.eval o := execOp_congr o hns (eval_congr hagree)
        unfold wpOpIn
        simp only [List.getElem?_toArray, ho]
        unfold wpListIn at hw0
        rw [wanted_congr hagree] at hw0
        split
        · rename_i hwant
          rw [if_pos hwant] at hw0
          refine ⟨fun _ _ => trivial, ?_⟩
          have h2 := hw0.2
          rw [semAt_any hnd, hexec] at h2
          rw [semAt_any hnd]
          generalize (execOp a.eval o).run P w = res at *
          cases res with
          | ok x w' =>
            cases x <;> simp only [Oper.uponIn] at h2 ⊢
            case value v => exact hread v w' h2
            case skip => exact hread _ w' h2
            case enter f args =>
              refine ⟨h2.1, CallsIn.mono h2.2 fun e w'' he => ?_⟩
              cases e with
              | returned v => exact hread v w'' he
              | panicked ch => cases he.1
              | outgrown => obtain ⟨_, _, he⟩ := he; cases he.1
            case row row args => exact ⟨h2.1, RowsIn.mono h2.2 fun v w'' he => hread v w'' he⟩
            case round lp f tm asg bd =>
              refine ⟨h2.1, RoundIn.mono h2.2 fun e w'' he => ?_⟩
              cases e with
              | returned v => exact hread v w'' he
              | panicked ch => cases he.1
              | outgrown => obtain ⟨_, _, he⟩ := he; cases he.1
            case defer dd =>
              exfalso
              have h3 : dd :: b.defers = D := by
                have := h2.2.1
                rw [hdst] at this; exact this
              have h4 : b.defers = D := hFr.defers
              rw [h4] at h3
              have := congrArg List.length h3
              simp at this
          | halt x w' =>
            cases x <;> simp only [Oper.uponIn] at h2 ⊢
            case panic v => cases h2.1
        · rename_i hwant
          rw [if_neg hwant] at hw0
          exact ⟨fun _ _ => trivial, hread _ _ hw0.2⟩


theorem TC_draw6 {id : Nat} {l : List Oper} (T s : Nat) (el : List Nat) (cb Hr : Hp) {ps : List (Nat × Post)} (hn : (cb ++ Hr).Perm H) (hc : drawOk l T = true) (hsT : Nat.blt s T = true) (hm : P.follows .mixedOrders = true) (he : earlyOk l s el = true) (hPG : PG6 r P N D B w0 Hr cb s l.toArray el 0 (l.take T) L [] ps)
    (hK : AllF (fsA [] ps) fun EF G => TL r P Q N D B w0 (EF ++ envA L ps) (G ++ Hr) l.toArray (l.drop T)) : TC r P Q N D B w0 L H (.region id l.toArray true) := by
  intro a w hf hs0
  have hs : SH B w0 w (cb ++ Hr) := hs0.perm hn
  have ok := drawOk_spec hc
  obtain ⟨hlen, hps⟩ := PG6_spec hPG
  have hT : T = ps.length := by rw [← hlen, List.length_take]; have := ok.hT; omega
  have hsT : s < T := by simpa using hsT
  refine wpIn_region_any hm ?_
  have hrep : ∀ i, i < l.length → (Array.replicate l.toArray.size false).getD i true = false := fun i hi => by simp [hi]
  have hsl : s < l.length := by have := ok.hT; omega
  refine wpAny_stage6 (s := s) (cb := cb) (el := el) ok hsT (earlyOk_spec he) (fun k v h => ?_) hT (fun i o h => by simpa using hps i o h) hK _ _ a _ (by simp) (by simp) ?_ (fun i _ hi => by simpa using hrep i hi) ⟨hf.size, hf.defers, fun t v h _ => hf.get t v h, fun _ => [], [], [], List.nodup_nil, fun d => ?_, ?_, fun j q hj hl => ?_⟩
  · have := (Array.getElem?_eq_some_iff.1 (hf.get k v h)).1
    rw [hf.size] at this; exact this
  · intro i hi hli
    exfalso
    have h1 : i < l.length := by simpa using hi
    rw [hrep i h1] at hli; cases hli
  · constructor
    · intro h; cases h
    · rintro ⟨j, q, hj, _, hl⟩
      exfalso
      have h1 : j < l.length := by have := (List.getElem?_eq_some_iff.1 hj).1; have := ok.hT; omega
      rw [hrep j h1] at hl; cases hl
  · have : pd s cb (Array.replicate l.toArray.size false) = cb := by unfold pd; rw [if_neg]; rw [hrep s hsl]; simp
    rw [this]
    exact hs.drew
  · exfalso
    have h1 : j < l.length := by have := (List.getElem?_eq_some_iff.1 hj).1; have := ok.hT; omega
    rw [hrep j h1] at hl; cases hl

theorem pv6 {i : Nat} {o : Oper} {E : Env} {Fs : List Fact} {d : Nat} {c : Value} {ps : List (Nat × Post)} (k : PG6 r P N D B w0 H cb s ops el (i + 1) rest ((d, c) :: E) Fs ps) (h1 : o.dst = some d := by exact rfl) (h2 : Nat.blt d N = true := by exact rfl) (h4 : Nat.beq i s = false := by exact rfl)
    (h3 : AllF (fltF ops o Fs) (fun EF G => ∀ X : Hp, TL r P (QV D B w0 d c (G ++ (X ++ H))) N D B w0 (EF ++ E) (G ++ (X ++ H)) ops [o]) := by
      intro _X
      refine r1 ?_
      apply TL_nil
      exact TQ_QV rfl (fun _ h => h)) : PG6 r P N D B w0 H cb s ops el i (o :: rest) E Fs ((d, .val c) :: ps) := PG6.val h1 h2 h4 h3 k
end
end Go.Eng
/- The engine: copy, append of zeros, slices.overlaps, makeInterface and typeAssert at named numbers, calls that may panic. -/
namespace Go.Eng
open Go Go.RowKit
set_option linter.unusedVariables false
set_option linter.unusedSimpArgs false
section
variable {r : Option Nat} {P : Program} {Q : Exit → Act → World → Prop} {N : Nat} {D : List Deferred} {B : Nat} {w0 : World} {L : Env} {H : Hp} {ops : Array Oper} {rest : List Oper}
variable {d : Nat} {ty : TypeId} {pos : String} {aft : Array Edge}

theorem TL_copy {α : Type} {t t' e T : TypeId} {x y : Operand} {sz : Nat} {ag : Bool} {z : List Value} {enc : α → List Value} {b o nd cd ns c2 : Nat} {ao2 : Option Addr} {l2 : List α} {cs cs' : List Value} {H' : Hp} (hd : Nat.blt d N = true)
    [hu : SlcP P t e] [he : TyP P e sz ag z] (hx : ev L x = some (.slice (some ⟨b, o, none⟩) nd cd)) (hy : ev L y = some (.slice ao2 ns c2)) (hns : Nat.min ns nd = l2.length)
    (hs : ∀ w, SH B w0 w H → Sl w sz enc ao2 l2) (h1 : ∀ u ∈ l2, oneCells (enc u) = true) (hup : Upd H b (.cells cs T) (.cells cs' T) H') (hp : putN o (l2.flatMap enc) cs = some cs')
    (k : TL r P Q N D B w0 ((d, .int .i64 (Nat.min ns nd : Nat)) :: L) H' ops rest) :
    TL r P Q N D B w0 L H ops (⟨some d, .call { callee := .builtin .copy, args := #[x, y], argTypes := #[t, t'] }, ty, pos, aft, none⟩ :: rest) := by
  refine TL_valw (by simp) hd (fun _ : Unit => .int .i64 (Nat.min ns nd : Nat)) (fun _ => H') (fun _ => True) (fun a w hf hss => ?_) (fun _ _ => k)
  obtain ⟨q, _, hj, hsz, _, _⟩ := he.info
  have g1 : (Go.sizeOf e).run P w = .ok sz w := by rw [run_sizeOf w hj]; simp [Program.cellsOf, hj, hsz]
  have hsl := hs w hss
  have hfl : (l2.flatMap enc).length = Nat.min ns nd * sz := by rw [flat_len _ hsl.enc_len, hns]
  have hfc : (Builtin.firstCells sz (Nat.min ns nd) (.slice ao2 ns c2)).run P w = .ok (l2.flatMap enc).toArray w := by
    by_cases h0 : l2 = []
    · have hm0 : Nat.min ns nd = 0 := by rw [hns, h0]; rfl
      rw [h0, hm0]
      cases ao2 <;> simp [Builtin.firstCells, loadCells, loadCellsFrom]
    · obtain ⟨b2, o2, rfl⟩ := hsl.some_ h0
      exact run_firstCells_some w sz _ _ _ _ _ hfl hsl.flat
  have hb := (hss.holds _ _ hup.mem).2
  simp only [Blk.toObj] at hb
  obtain ⟨e1, e2⟩ := putN_some hp
  have hst := run_storeCells_at P b o T (l2.flatMap enc) 0 cs.toArray w hb (by simpa using e2) (flat_oneCells _ h1)
  refine ⟨(), w.setRow b (List.take (o + 0) cs.toArray.toList ++ l2.flatMap enc ++ List.drop (o + 0 + (l2.flatMap enc).length) cs.toArray.toList).toArray, trivial, ?_, ?_⟩
  · simp only [execOp, resolve, invoke, Go.builtin, hf.ev hx, hf.ev hy, Sem.run_bind, Sem.run_pure, Result.andThen, List.map_toArray, List.map_cons, List.map_nil]
    simp [Builtin.copy_, run_underlying hu.u, Builtin.lenOf, g1, hfc, hst, goInt]
  · refine hss.upd hup rfl rfl rfl (by simp) ?_ ?_
    · rw [setRow_heap w b cs.toArray _ T _ hb, e1]; simp [Blk.toObj]
    · intro c hc; exact setRow_other w b c _ hc

theorem flat_take {α : Type} {enc : α → List Value} {k : Nat} : ∀ (l : List α) (j : Nat), (∀ x ∈ l, (enc x).length = k) → (l.take j).flatMap enc = (l.flatMap enc).take (j * k) ∧ (l.drop j).flatMap enc = (l.flatMap enc).drop (j * k)
  | [], j, _ => by simp
  | x :: l, 0, _ => by simp
  | x :: l, j + 1, h => by
    have hx := h x List.mem_cons_self
    obtain ⟨h1, h2⟩ := flat_take l j (fun y hy => h y (List.mem_cons_of_mem _ hy))
    rw [List.take_succ_cons, List.drop_succ_cons, List.flatMap_cons, List.flatMap_cons, h1, h2]
    have e : (j + 1) * k = (enc x).length + j * k := by rw [hx, Nat.succ_mul]; omega
    rw [e, List.take_length_add_append, List.drop_length_add_append]
    exact ⟨rfl, rfl⟩
/-- Elements laid over those of a row, from a place on; they may reach past its end. -/
theorem Row.over {α : Type} {T : TypeId} {k : Nat} {enc : α → List Value} {ao : Option Addr} {cap : Nat} {ob : Hp} {l : List α} (h : Row T k enc ao cap ob l) {j : Nat} {us : List α} (hj : j ≤ l.length) (hc : j + us.length ≤ cap) (hus : ∀ u ∈ us, (enc u).length = k ∧ oneCells (enc u) = true) (hl : l ≠ []) :
    ∃ b cs cs', ao = some ⟨b, 0, none⟩ ∧ ob = [(b, .cells cs T)] ∧ putN (j * k) (us.flatMap enc) cs = some cs' ∧ Row T k enc ao cap [(b, .cells cs' T)] (l.take j ++ us ++ l.drop (j + us.length)) := by
  have hk : ∀ x ∈ l, (enc x).length = k := fun x hx => (h.1 x hx).1
  have hfu : (us.flatMap enc).length = us.length * k := flat_len _ (fun u hu => (hus u hu).1)
  have hfl : (l.flatMap enc).length = l.length * k := flat_len _ hk
  rcases h.2 with ⟨_, _, _, rfl⟩ | ⟨b, more, rfl, rfl, h2, h3, h4⟩
  · exact absurd rfl hl
  · have hfit : j * k + (us.flatMap enc).length ≤ (l.flatMap enc ++ more).length := by
      rw [hfu, h4, ← Nat.add_mul]; exact Nat.mul_le_mul_right _ hc
    have hmem : ∀ x ∈ l.take j ++ us ++ l.drop (j + us.length), (enc x).length = k ∧ oneCells (enc x) = true := fun x hx => by
      rcases List.mem_append.1 hx with hx | hx
      · rcases List.mem_append.1 hx with hx | hx
        · exact h.1 x (List.mem_of_mem_take hx)
        · exact hus x hx
      · exact h.1 x (List.mem_of_mem_drop hx)
    have hcells : (l.flatMap enc ++ more).take (j * k) ++ us.flatMap enc ++ (l.flatMap enc ++ more).drop (j * k + (us.flatMap enc).length) = (l.take j ++ us ++ l.drop (j + us.length)).flatMap enc ++ more.drop ((j + us.length) * k - l.length * k) := by
      rw [List.flatMap_append, List.flatMap_append, (flat_take l j hk).1, (flat_take l (j + us.length) hk).2, hfu, ← Nat.add_mul]
      have hjl : j * k ≤ (l.flatMap enc).length := by rw [hfl]; exact Nat.mul_le_mul_right _ hj
      simp only [List.take_append_of_le_length hjl, List.drop_append, hfl, List.append_assoc]
    refine ⟨b, _, _, rfl, rfl, putN_put hfit, hmem, .inr ⟨b, more.drop ((j + us.length) * k - l.length * k), rfl, by rw [hcells], ?_, h3, ?_⟩⟩
    · simp only [List.length_append, List.length_take, List.length_drop]; omega
    · rw [← hcells, ← h4]
      simp only [List.length_append, List.length_take, List.length_drop] at hfit ⊢
      omega

theorem repl_flat {α : Type} {enc : α → List Value} {u0 : α} : ∀ m : Nat, (List.replicate m u0).flatMap enc = repN m (enc u0)
  | 0 => rfl
  | m + 1 => by rw [List.replicate_succ, List.flatMap_cons, repl_flat m]; rfl
theorem zeroCells_rep (z : List Value) (m : Nat) : Builtin.zeroCells z.toArray m = (repN m z).toArray := by
  rw [Builtin.zeroCells]
  have := repN_range m z
  simpa using this

/-- 'append(s, make(S, m)...)' that must grow. -/
theorem TL_appendZ {α : Type} {t tn e : TypeId} {x y : Operand} {sz : Nat} {ag : Bool} {z : List Value} {by_ : Nat} {enc : α → List Value} {ao : Option Addr} {cap : Nat} {l : List α} {n m : Nat} {u0 : α} (hd : Nat.blt d N = true)
    [hu : SlcP P t e] [hi64 : IntP P tn .i64] [he : TyP P e sz ag z] (hzl : z.length = sz) [hby : BytP P e by_]
    (hx : ev L x = some (.slice ao n cap)) (hn : n = l.length) (hy : ev L y = some (.int .i64 (m : Nat))) (hs : ∀ w, SH B w0 w H → Sl w sz enc ao l) (hl : l ≠ []) (hz : enc u0 = z)
    (hsz0 : 0 < sz) (h1 : ∀ u ∈ l, oneCells (enc u) = true) (h1z : oneCells (enc u0) = true) (hg : cap < l.length + m) (hle : l.length ≤ cap) (hb : (l.length + m) * by_ ≤ 140737488355328) (hm : l.length + m ≤ maxLen)
    (k : ∀ b cap' ob', Row e sz enc (some ⟨b, 0, none⟩) cap' ob' (l ++ List.replicate m u0) → TL r P Q N D B w0 ((d, .slice (some ⟨b, 0, none⟩) (l.length + m) cap') :: L) (ob' ++ H) ops rest) :
    TL r P Q N D B w0 L H ops (⟨some d, .call { callee := .builtin .append, args := #[x, y], argTypes := #[t, tn] }, ty, pos, aft, none⟩ :: rest) := by
  subst hn
  refine TL_valw (by simp) hd (fun q : Nat × Nat × Hp => .slice (some ⟨q.1, 0, none⟩) (l.length + m) q.2.1) (fun q => q.2.2 ++ H) (fun q => Row e sz enc (some ⟨q.1, 0, none⟩) q.2.1 q.2.2 (l ++ List.replicate m u0)) (fun a w hf hss => ?_) (fun q hq => k q.1 q.2.1 q.2.2 hq)
  obtain ⟨i, v, hi, hsi, hzv, hc⟩ := he.info
  have hbi : i.bytes = by_ := by rw [← hby.b]; simp [Program.bytesOf, hi]
  have hsl := hs w hss
  obtain ⟨b1, o1, rfl⟩ := hsl.some_ hl
  have hmx : l.length + m ≤ 9223372036854775807 := by simpa [maxLen] using hm
  have hge := grownCap_ge w (l.length + m) cap e
  have hcm := grownCap_le_maxLen w (l.length + m) cap e hm
  have hEl : ∀ x ∈ l ++ List.replicate m u0, (enc x).length = sz := fun x hx => by
    rcases List.mem_append.1 hx with h | h
    · exact hsl.enc_len x h
    · rw [(List.mem_replicate.1 h).2, hz, hzl]
  have h1' : ∀ x ∈ l ++ List.replicate m u0, oneCells (enc x) = true := fun x hx => by
    rcases List.mem_append.1 hx with h | h
    · exact h1 x h
    · rw [(List.mem_replicate.1 h).2]; exact h1z
  refine ⟨(w.heap.size, grownCap w (l.length + m) cap e, [(w.heap.size, .cells ((l ++ List.replicate m u0).flatMap enc ++ (Builtin.zeroCells v.cells (grownCap w (l.length + m) cap e - (l.length + m))).toList) e)]), w.drew.alloc (.cells ((l ++ List.replicate m u0).flatMap enc ++ (Builtin.zeroCells v.cells (grownCap w (l.length + m) cap e - (l.length + m))).toList).toArray e), ⟨fun x hx => ⟨hEl x hx, h1' x hx⟩, .inr ⟨w.heap.size, _, rfl, rfl, by simpa using hge, hcm, ?_⟩⟩, ?_, ?_⟩
  · rw [List.length_append, flat_len _ hEl]
    have : (Builtin.zeroCells v.cells (grownCap w (l.length + m) cap e - (l.length + m))).toList.length = (grownCap w (l.length + m) cap e - (l.length + m)) * sz := by
      rw [Array.length_toList, size_zeroCells, hc]; simp [hzl]
    rw [this, ← Nat.add_mul, List.length_append, List.length_replicate]
    dsimp only; congr 1; omega
  · have hfo := run_firstCells_some (P := P) w.drew i.size l.length ⟨b1, o1, none⟩ l.length cap (l.flatMap enc) (by rw [flat_len _ hsl.enc_len, hsi]) (by simpa using hsl.flat)
    have hnn : ¬ (l.length + m ≤ cap) := by omega
    have hm0 : 0 < m := by omega
    have hw : IntKind.i64.wrap (m : Int) = m := by rw [IntKind.wrap_i64]; omega
    have hneg : ¬ ((m : Int) < 0) := by omega
    have hns : ¬ (m * i.size = 0) := Nat.mul_ne_zero (by omega) (by omega)
    have h63' : ¬ (9223372036854775807 < ((l.length : Int) + (m : Int))) := by omega
    have hmb : m * by_ ≤ 140737488355328 := Nat.le_trans (Nat.mul_le_mul_right _ (by omega)) hb
    have h48i : ¬ (281474976710656 < (m : Int) * (i.bytes : Int)) := by
      rw [hbi, ← Int.natCast_mul]
      omega
    have h48' : ¬ (281474976710656 < Builtin.nextslicecap (l.length + m) cap * i.bytes) := by
      have := growslice_fits (need := l.length + m) (old := cap) (bytes := i.bytes) (by omega) (by rw [hbi]; exact hb)
      omega
    have hr : (Builtin.append_ #[t, tn] ty #[.slice (some ⟨b1, o1, none⟩) l.length cap, .int .i64 (m : Nat)]).run P w = .ok (.slice (some ⟨w.heap.size, 0, none⟩) (l.length + m) (grownCap w (l.length + m) cap e)) (w.drew.alloc (.cells ((l.flatMap enc).toArray ++ Builtin.zeroCells v.cells m ++ Builtin.zeroCells v.cells (grownCap w (l.length + m) cap e - (l.length + m))) e)) := by
      simp [Builtin.append_, run_underlying hu.u, run_underlying hi64.u, sizeOf, typeInfo, zeroValue, hi, hzv, asInt, asIntOf, hw, hneg, hns, hnn, h63', h48i, h48', Question.forced, hfo, newRow, grownCap]
    have hcells : (l.flatMap enc).toArray ++ Builtin.zeroCells v.cells m ++ Builtin.zeroCells v.cells (grownCap w (l.length + m) cap e - (l.length + m)) = ((l ++ List.replicate m u0).flatMap enc ++ (Builtin.zeroCells v.cells (grownCap w (l.length + m) cap e - (l.length + m))).toList).toArray := by
      rw [hc, zeroCells_rep z m, arr_eq2, List.flatMap_append, repl_flat, hz]
    rw [hcells] at hr
    simp [execOp, resolve, invoke, Go.builtin, hf.ev hx, hf.ev hy, hr]
  · exact (hss.drew).alloc (Blk.cells ((l ++ List.replicate m u0).flatMap enc ++ (Builtin.zeroCells v.cells (grownCap w (l.length + m) cap e - (l.length + m))).toList) e)

/-- slices.overlaps of rows in two blocks. -/
theorem TL_overlaps {f : FuncId} {fn : Func} {t e tR : TypeId} {x y : Operand} {at_ : Array TypeId} {sz : Nat} {ag : Bool} {z : List Value} {a b : Addr} {la ca lb cb : Nat} {ka kb : List Value} {Ta Tb : TypeId} (hd : Nat.blt d N = true)
    [hu : SlcP P t e] [he : TyP P e sz ag z] (hfn : P.funcs[f]? = some fn) (hname : (fn.name == "runtime.NumGoroutine") = false) (hbody : fn.body.isNone = true) (hnx : Extern.findNext fn = none) (hfi : Extern.find fn = some (Extern.SlicesOverlaps.overlaps #[t, t] #[tR]))
    (hx : ev L x = some (.slice (some a) la ca)) (hy : ev L y = some (.slice (some b) lb cb)) (hab : a.block ≠ b.block) (hma : (a.block, Blk.cells ka Ta) ∈ H) (hmb : (b.block, Blk.cells kb Tb) ∈ H) (hkb : kb.length ≠ 0)
    (k : TL r P Q N D B w0 ((d, .bool false) :: L) H ops rest) :
    TL r P Q N D B w0 L H ops (⟨some d, .call { callee := .value (.func f), args := #[x, y], argTypes := at_ }, ty, pos, aft, none⟩ :: rest) :=
  TL_val (by simp) hd _ (fun a' w hf hss => by
    have ha := (hss.holds _ _ hma).2
    have hb := (hss.holds _ _ hmb).2
    simp only [Blk.toObj] at ha hb
    obtain ⟨q, _, hj, hsz, _, _⟩ := he.info
    have g1 : ∀ w, (Go.sizeOf e).run P w = .ok sz w := fun w => by rw [run_sizeOf w hj]; simp [Program.cellsOf, hj, hsz]
    have hnb : (a.block != b.block) = true := by simpa using hab
    have hnb' : (a.block == b.block) = false := by simpa using hab
    have hsa : w.shape? a.block = some (Ta, ka.length) := by simp [World.shape?, ha]
    have hsb : w.shape? b.block = some (Tb, kb.length) := by simp [World.shape?, hb]
    have hfa : w.frozen? a = false := by simp [World.frozen?, ha]
    have hfe : w.frozen? { block := a.block, off := ka.length } = false := by simp [World.frozen?, ha]
    have hov : (Extern.SlicesOverlaps.overlaps #[t, t] #[tR] #[.slice (some a) la ca, .slice (some b) lb cb]).run P w = .ok (.bool false) w := by
      change Sem.run P (α := Value) (do
        let some t := (#[t, t] : Array TypeId)[0]? | stuck "slices.overlaps: no parameter types"
        let .slice elem ← underlying t | stuck "slices.overlaps: slice type expected"
        let size ← sizeOf elem
        match (some a : Option Addr), (some b : Option Addr) with
        | some a, some b =>
          if la = 0 ∨ lb = 0 ∨ size = 0 then pure (Value.bool false)
          else if a.block != b.block && (← frozen a) && (← frozen b) then unsupported .addressObserved
          else do
            if a.block != b.block then do
              noView a; noView b
              if ← mayBeOne a b then return Value.bool ((← choose (.extern "sameAddr.stringBytes" 2)) == 1)
            pure (Value.bool (a.block == b.block && a.off < b.off + lb * size && b.off < a.off + la * size))
        | _, _ => pure (Value.bool false)) w = _
      by_cases h0 : la = 0 ∨ lb = 0 ∨ sz = 0
      · simp [run_underlying hu.u, g1, h0]
      · cases hkB : kb.length with
        | zero => exact absurd hkB hkb
        | succ kB =>
          rw [hkB] at hsb
          simp [run_underlying hu.u, g1, h0, hnb, hnb', frozen, noView, viewAt, mayBeOne, stringish, shape, Sem.run, hsa, hsb, hfa, hfe]
    have hcall := run_callFunc_extern hfn hname hbody hnx hfi #[.slice (some a) la ca, .slice (some b) lb cb] w
    rw [hov] at hcall
    have hc : a'.eval (.func f) = .func (.func f) #[] #[] := rfl
    simp only [execOp, resolve, hc, Deferred.ofValue, List.map_toArray, List.map_cons, List.map_nil, hf.ev hx, hf.ev hy, Sem.run_bind, Sem.run_pure, Result.andThen, invoke]
    rw [show (#[] ++ #[Value.slice (some a) la ca, Value.slice (some b) lb cb] ++ #[] : Array Value) = #[Value.slice (some a) la ca, Value.slice (some b) lb cb] from rfl]
    rw [hcall]; rfl) k
theorem TL_cap {t : TypeId} {e : TypeId} {x : Operand} {ao : Option Addr} {n c : Nat} (hd : Nat.blt d N = true) [hu : SlcP P t e] (hx : ev L x = some (.slice ao n c))
    (k : TL r P Q N D B w0 ((d, .int .i64 c) :: L) H ops rest) :
    TL r P Q N D B w0 L H ops (⟨some d, .call { callee := .builtin .cap, args := #[x], argTypes := #[t] }, ty, pos, aft, none⟩ :: rest) :=
  TL_val (by simp) hd _ (fun a w hf _ => by simp [execOp, hf.ev hx, resolve, invoke, Go.builtin, Builtin.cap_, run_underlying hu.u, goInt]) k
theorem nk {A C : Prop} (k : A) (h : Hd A → C := by first | exact fun g => TL_nilCheck rfl rfl g.h | exact fun g => TL_cap rfl rfl g.h) : C := h ⟨k⟩
theorem TL_makeInterface_i {t : TypeId} {x : Operand} {v : Value} {kd : IntKind} (hd : Nat.blt d N = true) [hi : IntP P t kd] (hx : ev L x = some v)
    (k : TL r P Q N D B w0 ((d, .iface t v) :: L) H ops rest) : TL r P Q N D B w0 L H ops (⟨some d, .makeInterface t x, ty, pos, aft, none⟩ :: rest) :=
  TL_val (by simp) hd _ (fun a w hf _ => by simp [execOp, hf.ev hx, Instr.makeInterface, run_underlying hi.u]) k
theorem TL_typeAssert_i {t asserted : TypeId} {x : Operand} {u : Value} {kd : IntKind} (hd : Nat.blt d N = true) [hi : IntP P asserted kd] (hx : ev L x = some (.iface asserted u))
    (k : TL r P Q N D B w0 ((d, .tuple #[u, .bool true]) :: L) H ops rest) : TL r P Q N D B w0 L H ops (⟨some d, .typeAssert x t asserted true, ty, pos, aft, none⟩ :: rest) :=
  TL_val (by simp) hd _ (fun a w hf _ => by simp [execOp, hf.ev hx, Instr.typeAssert, run_underlying hi.u]) k

/-- The ending of a function that returns, or panics with a value: either way the heap is told. -/
def EndP (B : Nat) (w0 : World) {X : Type} (val : X → Except Value Value) (H' : X → Hp) (Φ : X → Prop) : Ending → World → Prop :=
  fun e w => ∃ x, Φ x ∧ e = (match val x with | .ok v => .returned v | .error v => .panicked [{ v, recovered := false }]) ∧ SH B w0 w (H' x)
theorem TL_callP {d : Option Nat} {callee : Operand} {args : List Operand} {at_ : Array TypeId} {k : FuncId} {vs cl : List Value} (hx : ev L callee = some (.func (.func k) #[] cl.toArray)) (ha : evL L args = some vs) [hent : EntP P k] (hd : okD N d = true)
    {X : Type} (val : X → Except Value Value) (H' : X → Hp) (Φ : X → Prop) (hc : ∀ w, SH B w0 w H → Calls P k (vs ++ cl).toArray w (EndP B w0 val H' Φ))
    (kk : ∀ x v, Φ x → val x = .ok v → TL r P Q N D B w0 (putE L d v) (H' x) ops rest) (kp : ∀ x v, Φ x → val x = .error v → TQ Q N D B w0 L (H' x) (.panic [{ v, recovered := false }])) :
    TL r P Q N D B w0 L H ops (⟨d, .call { callee := .value callee, args := args.toArray, argTypes := at_ }, ty, pos, aft, none⟩ :: rest) :=
  TL_run rfl (by simp) fun a w hf hs => by
    have h1 := run_call (ty := ty) (at_ := at_) hf hx ha (hent := hent) w
    simp only [execOp]
    rw [h1]
    refine ⟨fun h => by simp [FW] at h, (callsIn_of_calls (hc w hs)).mono ?_⟩
    rintro e w' ⟨x, hx, he, hs'⟩
    cases hv : val x with
    | ok v =>
      rw [hv] at he; subst he
      exact kk x v hx hv _ _ (hf.putE hd _) hs'
    | error v =>
      rw [hv] at he; subst he
      exact kp x v hx hv _ _ hf hs'
end
end Go.Eng
