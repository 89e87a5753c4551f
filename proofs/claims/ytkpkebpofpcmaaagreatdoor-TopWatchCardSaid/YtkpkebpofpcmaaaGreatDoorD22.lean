/- Plain law: deeds that let turns which follow one another are all done; who uses a minute. -/
import Derived.Test.YtkpkebpofpcmaaaGreatDoorD20
namespace Go.Proofs.YtkpkebpofpcmaaaGreatDoor
open Go Go.Eng

/-- To whom a minute is let. -/
def userL (ds : List Dd) (t : Int) : Int := match ds.find? (fun d => decide (d.turn.1 ≤ t ∧ t < d.turn.2)) with
  | some d => d.to
  | none => 0
def Good (ds : List Dd) (pcs : List Pc) : Prop := ∀ p ∈ pcs, p.owner = 50 ∧ (p.let_ ≠ 0 → p.until_ = 2) ∧ ∀ t, p.turn.1 ≤ t → t < p.turn.2 → p.let_ = userL ds t
theorem good_cutP {ds : List Dd} {m : Int} : ∀ {pcs : List Pc}, Good ds pcs → Good ds (cutP m pcs)
  | [], h => h
  | p :: l, h => by
    have hp := h p List.mem_cons_self
    have hl : Good ds l := fun q hq => h q (List.mem_cons_of_mem _ hq)
    by_cases hin : insideB m p = true
    · rw [cutP, if_pos hin]
      simp only [insideB, decide_eq_true_eq] at hin
      intro q hq
      rcases List.mem_cons.1 hq with rfl | hq
      · exact ⟨hp.1, hp.2.1, fun t h1 h2 => hp.2.2 t h1 (by dsimp only at h2; omega)⟩
      · rcases List.mem_cons.1 hq with rfl | hq
        · exact ⟨hp.1, hp.2.1, fun t h1 h2 => hp.2.2 t (by dsimp only at h1; omega) h2⟩
        · exact hl q hq
    · rw [cutP, if_neg hin]
      have h2 := good_cutP (m := m) hl
      intro q hq
      rcases List.mem_cons.1 hq with rfl | hq
      · exact hp
      · exact h2 q hq
def mkD (j : Nat) (a b : Int) : Dd := ⟨j, 1, 4, 50, j, (a, b), 2, [], none, 0⟩
theorem find_snoc_none {ds : List Dd} {d : Dd} {t : Int} (h : ds.find? (fun d => decide (d.turn.1 ≤ t ∧ t < d.turn.2)) = none) : userL (ds ++ [d]) t = if d.turn.1 ≤ t ∧ t < d.turn.2 then d.to else 0 := by
  unfold userL
  rw [List.find?_append, h, Option.none_or, List.find?_singleton]
  by_cases e : d.turn.1 ≤ t ∧ t < d.turn.2 <;> simp [e]
theorem userL_snoc_ne {ds : List Dd} {d : Dd} {t : Int} (h : ¬ (d.turn.1 ≤ t ∧ t < d.turn.2)) : userL (ds ++ [d]) t = userL ds t := by
  unfold userL
  rw [List.find?_append, List.find?_singleton]
  cases ds.find? (fun d => decide (d.turn.1 ≤ t ∧ t < d.turn.2)) with
  | some x => rfl
  | none => simp [h]
/-- A deed whose minutes nobody has yet. -/
theorem rent_good {ds : List Dd} {pcs : List Pc} {d : Dd} (hch : chP 1440 0 pcs) (hg : Good ds pcs) (ht : Tn d.turn 0 1440) (hfr : d.fr = 50) (hday : d.day = 1) (hun : d.until_ = 2)
    (hap : ∀ t, d.turn.1 ≤ t → t < d.turn.2 → ds.find? (fun d => decide (d.turn.1 ≤ t ∧ t < d.turn.2)) = none) :
    (rentM d pcs).1 = 0 ∧ chP 1440 0 (rentM d pcs).2 ∧ Good (ds ++ [d]) (rentM d pcs).2 := by
  have hg2 : Good ds (cut2 d.turn pcs) := good_cutP (good_cutP hg)
  obtain ⟨A, M, C, h3⟩ := split3 hch ht
  have hhis : hisB d (cut2 d.turn pcs) = true := by
    unfold hisB
    rw [Bool.not_eq_true', List.any_eq_false]
    intro p hp
    rw [(hg2 p hp).1, hfr]; simp
  have hlet : letB d (cut2 d.turn pcs) = false := by
    unfold letB
    rw [List.any_eq_false]
    intro p hp
    simp only [Bool.and_eq_true, not_and]
    intro hin
    simp only [inT, decide_eq_true_eq] at hin
    have hlt := chP_mem h3.ch p hp
    have h0 : p.let_ = 0 := by
      rw [(hg2 p hp).2.2 p.turn.1 (Int.le_refl _) hlt.2.1]
      unfold userL
      rw [hap p.turn.1 hin.1 (by omega)]
    unfold busyB
    rw [h0]; simp
  have e : rentM d pcs = (0, setT d.turn (setLet d) (cut2 d.turn pcs)) := by unfold rentM; rw [hhis, hlet]; rfl
  refine ⟨by rw [e], rentM_ch hch ht, ?_⟩
  rw [e]
  intro q hq
  obtain ⟨p, hp, rfl⟩ := List.mem_map.1 hq
  have hgp := hg2 p hp
  have hlt := chP_mem h3.ch p hp
  by_cases hin : inT d.turn p = true
  · rw [if_pos hin]
    simp only [inT, decide_eq_true_eq] at hin
    refine ⟨hgp.1, fun _ => hun, fun t h1 h2 => ?_⟩
    dsimp only [setLet] at h1 h2 ⊢
    rw [find_snoc_none (hap t (by omega) (by omega)), if_pos (by omega)]
  · rw [if_neg hin]
    refine ⟨hgp.1, hgp.2.1, fun t h1 h2 => ?_⟩
    rw [hgp.2.2 t h1 h2, userL_snoc_ne]
    intro hc
    -- a piece that is not in the turn has no minute of it
    rw [h3.eq] at hp
    obtain ⟨i1, i2, i3⟩ := h3.inA
    rcases List.mem_append.1 hp with hp | hp
    · have := chP_mem h3.a p hp
      omega
    · rcases List.mem_append.1 hp with hp | hp
      · exact hin (i2 p hp)
      · have := chP_mem h3.c p hp
        omega
/-- Deeds whose turns follow one another. -/
def Chain : Int → List Dd → Prop
  | _, [] => True
  | s, d :: l => s ≤ d.turn.1 ∧ d.turn.1 < d.turn.2 ∧ Chain d.turn.2 l
theorem Chain.mem {s : Int} : ∀ {l : List Dd}, Chain s l → ∀ d ∈ l, s ≤ d.turn.1 ∧ d.turn.1 < d.turn.2
  | d :: l, h, x, hx => by
    rcases List.mem_cons.1 hx with rfl | hx
    · exact ⟨h.1, h.2.1⟩
    · have := Chain.mem h.2.2 x hx
      have h1 := h.1; have h2 := h.2.1
      exact ⟨by omega, this.2⟩
structure DOk (d : Dd) : Prop where
  t : Tn d.turn 0 1440
  fr : d.fr = 50
  day : d.day = 1
  un : d.until_ = 2
theorem run_good : ∀ (l ds : List Dd) (pcs : List Pc) (s : Int), Chain s l → (∀ d ∈ l, DOk d) → (∀ d ∈ ds, d.turn.2 ≤ s) → chP 1440 0 pcs → Good ds pcs →
    ∃ pcs', runB doR 1 l (pcs, fun _ => false) = (pcs', fun _ => false) ∧ chP 1440 0 pcs' ∧ Good (ds ++ l) pcs'
  | [], ds, pcs, s, _, _, _, hch, hg => ⟨pcs, rfl, hch, by rw [List.append_nil]; exact hg⟩
  | d :: l, ds, pcs, s, hc, hd, hds, hch, hg => by
    have h1 := hd d List.mem_cons_self
    obtain ⟨c1, c2, c3⟩ := hc
    have hap : ∀ t, d.turn.1 ≤ t → t < d.turn.2 → ds.find? (fun d => decide (d.turn.1 ≤ t ∧ t < d.turn.2)) = none := fun t ht1 ht2 => by
      rw [List.find?_eq_none]
      intro x hx
      have := hds x hx
      simp; omega
    obtain ⟨r1, r2, r3⟩ := rent_good hch hg h1.t h1.fr h1.day h1.un hap
    obtain ⟨pcs', e1, e2, e3⟩ := run_good l (ds ++ [d]) (rentM d pcs).2 d.turn.2 c3 (fun x hx => hd x (List.mem_cons_of_mem _ hx)) (fun x hx => by
      rcases List.mem_append.1 hx with hx | hx
      · have := hds x hx; omega
      · rw [List.mem_singleton.1 hx]; exact Int.le_refl _) r2 r3
    refine ⟨pcs', ?_, e2, by rw [List.append_assoc] at e3; exact e3⟩
    rw [runB, if_pos (by rw [h1.day]; exact Int.le_refl _)]
    exact e1
def roW (b : Nat) : Ro := ⟨1, [⟨50, (0, 1440)⟩], some ⟨b, 0, none⟩, 1⟩
theorem roW_ok (b : Nat) : chkRo (roW b) = 0 := by kernel_rfl
theorem roW_end (b : Nat) : endR (roW b) = 1440 := by kernel_rfl
theorem find_has {e : Int} {m : Int} : ∀ {l : List Pc} {s : Int}, chP e s l → s ≤ m → m < e → ∃ p, l.find? (hasB m) = some p ∧ p ∈ l ∧ p.turn.1 ≤ m ∧ m < p.turn.2
  | [], s, h, h1, h2 => by simp [chP] at h; omega
  | p :: l, s, h, h1, h2 => by
    by_cases hp : m < p.turn.2
    · have hb : hasB m p = true := by unfold hasB; have := h.1; simp; omega
      exact ⟨p, by simp [hb], List.mem_cons_self, by have := h.1; omega, hp⟩
    · obtain ⟨q, e1, e2, e3⟩ := find_has h.2.2 (by omega) h2
      refine ⟨q, ?_, List.mem_cons_of_mem _ e2, e3⟩
      have hb : hasB m p = false := by unfold hasB; simp; omega
      rw [List.find?_cons, hb]; exact e1
def usW (ds : List Dd) (m : Int) : Int := if userL ds m = 0 then 50 else userL ds m
theorem atW (b : Nat) (ds : List Dd) (m : Int) (hl : ds.length ≤ 60) (hp : ds.Pairwise (fun x y => x.id < y.id)) (hv : ∀ x ∈ ds, validB (roW b) x = true) (hc : Chain 0 ds) (hd : ∀ d ∈ ds, DOk d) (h1 : 0 ≤ m) (h2 : m < 1440) :
    atM (untilM id doR (roW b) ds 1) 1 m = (50, usW ds m, 0) := by
  have honce : onceM [] ds = some (ds.map er) := by
    have := onceM_inc ds [] (fun a ha => by cases ha) hp
    simpa using this
  have hr : readM id (roW b) ds = (0, ds.map er) := by
    unfold readM
    rw [if_neg (by rw [roW_ok]; simp), if_neg (by omega), if_neg (by
      rw [Bool.not_eq_true, List.any_eq_false]
      intro x hx
      rw [hv x hx]; simp), honce]
    rfl
  obtain ⟨pcs, e1, e2, e3⟩ := run_good ds [] (pcsOf (roW b)) 0 hc hd (fun d hd => by cases hd) ⟨rfl, by decide, rfl⟩ (fun p hp => by
    rw [List.mem_singleton.1 hp]
    exact ⟨rfl, fun h => absurd rfl h, fun t _ _ => rfl⟩)
  have hu : untilM id doR (roW b) ds 1 = (0, pcs, fun _ => false) := by
    unfold untilM
    rw [if_neg (by rw [hr]; simp), if_neg (by simp [In]), hr]
    show (0, runB doR 1 (ds.map er) _) = _
    rw [runB_er doR (fun _ _ _ => rfl), e1]
  rw [hu]
  unfold atM
  rw [if_neg (by simp)]
  obtain ⟨p, g1, g2, g3, g4⟩ := find_has e2 h1 h2
  dsimp only
  rw [g1]
  have hg := e3 p g2
  rw [List.nil_append] at hg
  have hlet := hg.2.2 m g3 g4
  dsimp only
  rw [hg.1]
  unfold userP busyB usW
  rw [← hlet, hg.1]
  by_cases h0 : p.let_ = 0
  · simp [h0]
  · rw [if_neg h0, hg.2.1 h0]; simp [h0]
end Go.Proofs.YtkpkebpofpcmaaaGreatDoor
/- Plain law: the deeds of a night's changes. -/
namespace Go.Proofs.YtkpkebpofpcmaaaGreatDoor
open Go Go.Eng

def dsF : Int → Nat → List Int → List Dd
  | _, _, [] => []
  | a, j, x :: l => if a < x then mkD j a x :: dsF x (j + 1) l else dsF x (j + 1) l
def dsOf : List Int → List Dd
  | [] => []
  | a :: l => dsF a 1 l
def lastF : Int → List Int → Int
  | a, [] => a
  | _, x :: l => lastF x l
def lastN : List Int → Int
  | [] => 0
  | a :: l => lastF a l
theorem lastF_snoc : ∀ (l : List Int) (a x : Int), lastF a (l ++ [x]) = x
  | [], a, x => rfl
  | y :: l, a, x => lastF_snoc l y x
theorem lastN_snoc (l : List Int) (x : Int) : lastN (l ++ [x]) = x := by
  cases l with
  | nil => rfl
  | cons a l => exact lastF_snoc l a x
theorem dsF_snoc : ∀ (l : List Int) (a x : Int) (j : Nat), dsF a j (l ++ [x]) = dsF a j l ++ (if lastF a l < x then [mkD (j + l.length) (lastF a l) x] else [])
  | [], a, x, j => by
    by_cases h : a < x <;> simp [dsF, lastF, h]
  | y :: l, a, x, j => by
    rw [List.cons_append, dsF, dsF, dsF_snoc l y x (j + 1), lastF, List.length_cons, show j + 1 + l.length = j + (l.length + 1) by omega]
    split <;> rfl
theorem dsOf_snoc (N : List Int) (x : Int) : dsOf (N ++ [x]) = dsOf N ++ (if 0 < N.length ∧ lastN N < x then [mkD N.length (lastN N) x] else []) := by
  cases N with
  | nil => simp [dsOf, dsF]
  | cons a l =>
    rw [List.cons_append, dsOf, dsF_snoc, dsOf, lastN, List.length_cons, show 1 + l.length = l.length + 1 by omega]
    by_cases h : lastF a l < x
    · rw [if_pos h, if_pos ⟨by omega, h⟩]
    · rw [if_neg h, if_neg (fun h2 => h h2.2)]
def Rise : Int → List Int → Prop
  | _, [] => True
  | a, x :: l => a ≤ x ∧ Rise x l
theorem Rise.snoc : ∀ {l : List Int} {a x : Int}, Rise a l → lastF a l ≤ x → Rise a (l ++ [x])
  | [], a, x, _, h => ⟨h, trivial⟩
  | y :: l, a, x, hr, h => ⟨hr.1, Rise.snoc hr.2 h⟩
/-- The minutes of the changes so far. -/
def RiseN (N : List Int) : Prop := match N with
  | [] => True
  | a :: l => 0 ≤ a ∧ Rise a l
theorem RiseN.snoc {N : List Int} {x : Int} (h : RiseN N) (h0 : 0 ≤ x) (hx : lastN N ≤ x) : RiseN (N ++ [x]) := by
  cases N with
  | nil => exact ⟨h0, trivial⟩
  | cons a l => exact ⟨h.1, Rise.snoc h.2 hx⟩
theorem chain_dsF : ∀ (l : List Int) (a : Int) (j : Nat), Rise a l → Chain a (dsF a j l)
  | [], a, j, _ => trivial
  | x :: l, a, j, h => by
    have h2 := chain_dsF l x (j + 1) h.2
    rw [dsF]
    split
    · rename_i hlt
      exact ⟨Int.le_refl _, hlt, h2⟩
    · have e : a = x := by have := h.1; omega
      subst e; exact h2
theorem Chain.low {s s' : Int} (h : s' ≤ s) : ∀ {l : List Dd}, Chain s l → Chain s' l
  | [], _ => trivial
  | d :: l, hc => ⟨by have := hc.1; omega, hc.2⟩
theorem mem_dsF : ∀ {l : List Int} {a : Int} {j : Nat}, Rise a l → ∀ d ∈ dsF a j l, ∃ (i : Nat) (b c : Int), d = mkD (j + i) b c ∧ i < l.length ∧ a ≤ b ∧ b < c ∧ c ≤ lastF a l
  | [], a, j, _, d, hd => by cases hd
  | x :: l, a, j, h, d, hd => by
    have hle : ∀ {l : List Int} {a : Int}, Rise a l → a ≤ lastF a l := by
      intro l
      induction l with
      | nil => intro a _; exact Int.le_refl _
      | cons y l ih => intro a h; have := ih h.2; have := h.1; simp only [lastF]; omega
    have rec' : d ∈ dsF x (j + 1) l → ∃ (i : Nat) (b c : Int), d = mkD (j + i) b c ∧ i < (x :: l).length ∧ a ≤ b ∧ b < c ∧ c ≤ lastF a (x :: l) := fun hd => by
      obtain ⟨i, b, c, e, h1, h2, h3, h4⟩ := mem_dsF h.2 d hd
      exact ⟨i + 1, b, c, by rw [e, show j + 1 + i = j + (i + 1) by omega], by simp; omega, by have := h.1; omega, h3, h4⟩
    rw [dsF] at hd
    split at hd
    · rename_i hlt
      rcases List.mem_cons.1 hd with rfl | hd
      · exact ⟨0, a, x, rfl, by simp, Int.le_refl _, hlt, hle h.2⟩
      · exact rec' hd
    · exact rec' hd
theorem pair_dsF : ∀ (l : List Int) (a : Int) (j : Nat), Rise a l → (dsF a j l).Pairwise (fun x y => x.id < y.id)
  | [], a, j, _ => List.Pairwise.nil
  | x :: l, a, j, h => by
    have h2 := pair_dsF l x (j + 1) h.2
    rw [dsF]
    split
    · refine List.Pairwise.cons (fun d hd => ?_) h2
      obtain ⟨i, b, c, e, _⟩ := mem_dsF h.2 d hd
      rw [e]; simp only [mkD]; omega
    · exact h2
theorem len_dsF : ∀ (l : List Int) (a : Int) (j : Nat), (dsF a j l).length ≤ l.length
  | [], a, j => Nat.le_refl _
  | x :: l, a, j => by
    have := len_dsF l x (j + 1)
    rw [dsF]; split <;> simp <;> omega
theorem valid_mkD (b : Nat) (j : Nat) (s t : Int) (hj : 0 < j ∧ j ≤ 49) (hs : 0 ≤ s) (hst : s < t) (ht : t ≤ 1440) : validB (roW b) (mkD j s t) = true := by
  have e : wr ((1 : Int) + 1) = 2 := by kernel_rfl
  unfold validB
  rw [show kfl (mkD j s t).kind = some (true, true, true, false, 159) from rfl]
  simp only [Bool.and_eq_true, flagB, toV, tuV, unV, heV, if_true, decide_eq_true_eq, roW_end]
  simp only [mkD, headOk, In, Tn, e]
  simp
  omega
theorem dsOf_facts (b : Nat) {N : List Int} (hr : RiseN N) (hn : N.length ≤ 20) (hl : lastN N ≤ 1440) : (dsOf N).length ≤ 19 ∧ (dsOf N).Pairwise (fun x y => x.id < y.id) ∧ (∀ x ∈ dsOf N, validB (roW b) x = true) ∧ Chain 0 (dsOf N) ∧ (∀ d ∈ dsOf N, DOk d ∧ d.kind = 4 ∧ d.heirs = [] ∧ d.ao = none) := by
  cases N with
  | nil => exact ⟨by simp [dsOf], List.Pairwise.nil, by simp [dsOf], trivial, by simp [dsOf]⟩
  | cons a l =>
    obtain ⟨h0, h1⟩ := hr
    simp only [List.length_cons] at hn
    simp only [lastN] at hl
    simp only [dsOf]
    have hm : ∀ d ∈ dsF a 1 l, ∃ (i : Nat) (b c : Int), d = mkD i b c ∧ 0 < i ∧ i ≤ 19 ∧ 0 ≤ b ∧ b < c ∧ c ≤ 1440 := fun d hd => by
      obtain ⟨i, b, c, e, g1, g2, g3, g4⟩ := mem_dsF h1 d hd
      exact ⟨1 + i, b, c, e, by omega, by omega, by omega, g3, by omega⟩
    refine ⟨by have := len_dsF l a 1; omega, pair_dsF l a 1 h1, fun x hx => ?_, (chain_dsF l a 1 h1).low h0, fun d hd => ?_⟩
    · obtain ⟨i, s, c, e, g1, g2, g3, g4, g5⟩ := hm x hx
      rw [e]; exact valid_mkD b i s c ⟨g1, by omega⟩ g3 g4 g5
    · obtain ⟨i, s, c, e, g1, g2, g3, g4, g5⟩ := hm d hd
      rw [e]
      exact ⟨⟨⟨g3, g4, g5⟩, rfl, rfl, rfl⟩, rfl, rfl, rfl⟩
theorem userL_low : ∀ {l : List Int} {a t : Int} {j : Nat}, Rise a l → t < a → userL (dsF a j l) t = 0
  | l, a, t, j, h, ht => by
    unfold userL
    have : (dsF a j l).find? (fun d => decide (d.turn.1 ≤ t ∧ t < d.turn.2)) = none := by
      rw [List.find?_eq_none]
      intro d hd
      obtain ⟨i, b, c, e, g1, g2, g3, g4⟩ := mem_dsF h d hd
      rw [e]
      show ¬ decide (b ≤ t ∧ t < c) = true
      rw [decide_eq_true_eq]; omega
    rw [this]
theorem userL_high {l : List Int} {a t : Int} {j : Nat} (h : Rise a l) (ht : lastF a l ≤ t) : userL (dsF a j l) t = 0 := by
  unfold userL
  have : (dsF a j l).find? (fun d => decide (d.turn.1 ≤ t ∧ t < d.turn.2)) = none := by
    rw [List.find?_eq_none]
    intro d hd
    obtain ⟨i, b, c, e, g1, g2, g3, g4⟩ := mem_dsF h d hd
    rw [e]
    show ¬ decide (b ≤ t ∧ t < c) = true
    rw [decide_eq_true_eq]; omega
  rw [this]
theorem rise_get : ∀ {l : List Int} {a : Int} (i : Nat) {x : Int}, Rise a l → l[i]? = some x → a ≤ x
  | y :: l, a, 0, x, h, hx => by simp at hx; subst hx; exact h.1
  | y :: l, a, i + 1, x, h, hx => by
    have := rise_get i h.2 (by simpa using hx)
    have := h.1
    omega
theorem userL_mid : ∀ {l : List Int} {a t : Int} {j : Nat} (i : Nat) {p x : Int}, Rise a l → (a :: l)[i]? = some p → l[i]? = some x → p ≤ t → t < x → userL (dsF a j l) t = ((j + i : Nat) : Int)
  | [], a, t, j, i, p, x, h, hp, hx, h1, h2 => by simp at hx
  | y :: l, a, t, j, 0, p, x, h, hp, hx, h1, h2 => by
    simp at hp hx; subst hp hx
    rw [dsF, if_pos (by omega)]
    unfold userL
    rw [List.find?_cons]
    have : decide ((mkD j a y).turn.1 ≤ t ∧ t < (mkD j a y).turn.2) = true := decide_eq_true (show a ≤ t ∧ t < y from ⟨h1, h2⟩)
    rw [this]; rfl
  | y :: l, a, t, j, i + 1, p, x, h, hp, hx, h1, h2 => by
    have hp' : (y :: l)[i]? = some p := by simpa using hp
    have hx' : l[i]? = some x := by simpa using hx
    have h3 := userL_mid (j := j + 1) i h.2 hp' hx' h1 h2
    have hyp : y ≤ p := by
      cases i with
      | zero => simp at hp'; omega
      | succ i => exact rise_get i h.2 (by simpa using hp')
    rw [show j + (i + 1) = j + 1 + i by omega, ← h3, dsF]
    split
    · unfold userL
      rw [List.find?_cons]
      have : decide ((mkD j a y).turn.1 ≤ t ∧ t < (mkD j a y).turn.2) = false := decide_eq_false (fun h => by have h5 : t < y := h.2; omega)
      rw [this]
    · rfl
/-- What the statement asks of who uses a minute. -/
theorem usW_low {N : List Int} {a : Int} {t : Int} (hr : RiseN N) (ha : N[0]? = some a) (ht : t < a) : usW (dsOf N) t = 50 := by
  cases N with
  | nil => simp at ha
  | cons b l =>
    simp at ha; subst ha
    unfold usW; rw [dsOf, userL_low hr.2 ht, if_pos rfl]
theorem usW_high {N : List Int} {t : Int} (hr : RiseN N) (ht : lastN N ≤ t) : usW (dsOf N) t = 50 := by
  cases N with
  | nil => rfl
  | cons b l => unfold usW; rw [dsOf, userL_high hr.2 ht, if_pos rfl]
theorem usW_mid {N : List Int} {t p x : Int} (i : Nat) (hr : RiseN N) (hp : N[i]? = some p) (hx : N[i + 1]? = some x) (h1 : p ≤ t) (h2 : t < x) : usW (dsOf N) t = ((i + 1 : Nat) : Int) := by
  cases N with
  | nil => simp at hp
  | cons b l =>
    unfold usW
    rw [dsOf, userL_mid i hr.2 hp (by simpa using hx) h1 h2, if_neg (by omega), show 1 + i = i + 1 by omega]
theorem lastN_get : ∀ {N : List Int}, N ≠ [] → N[N.length - 1]? = some (lastN N)
  | [], h => absurd rfl h
  | [a], _ => rfl
  | a :: b :: l, _ => by
    have := lastN_get (N := b :: l) (by simp)
    simpa [lastN, lastF] using this
end Go.Proofs.YtkpkebpofpcmaaaGreatDoor
