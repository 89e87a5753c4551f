/- Plain laws of runs: turns follow one another; each minute's run is whose the minute's piece is; which turns may be on. Plain law: whose pieces and runs are is never below nought. -/
import Derived.Test.YtkpkebpofpcmaaaGreatDoorS8
import Derived.Test.YtkpkebpofpcmaaaGreatDoorR1
namespace Go.Proofs.YtkpkebpofpcmaaaGreatDoor
open Go Go.Eng

def chHo (e : Int) : Int → List Ho → Prop
  | s, [] => s = e
  | s, h :: l => h.turn.1 = s ∧ h.turn.1 < h.turn.2 ∧ chHo e h.turn.2 l
theorem runsF_ok (f : Pc → Int) {e : Int} : ∀ (l : List Pc) (s : Int) (now : Ho), chP e s l → now.turn.1 < now.turn.2 → now.turn.2 = s →
    chHo e now.turn.1 (runsF f now l) ∧ (∀ t, now.turn.1 ≤ t → t < s → ∃ h ∈ runsF f now l, h.turn.1 ≤ t ∧ t < h.turn.2 ∧ h.who = now.who) ∧ (∀ p ∈ l, ∀ t, p.turn.1 ≤ t → t < p.turn.2 → ∃ h ∈ runsF f now l, h.turn.1 ≤ t ∧ t < h.turn.2 ∧ h.who = f p)
  | [], s, now, h, h1, h2 => by
    simp [chP] at h
    refine ⟨⟨rfl, h1, by rw [h2]; exact h⟩, fun t a b => ⟨now, by simp [runsF], a, by omega, rfl⟩, fun p hp => by cases hp⟩
  | p :: l, s, now, h, h1, h2 => by
    obtain ⟨g1, g2, g3⟩ := h
    rw [runsF]
    split
    · rename_i hne
      obtain ⟨i1, i2, i3⟩ := runsF_ok f l p.turn.2 ⟨f p, (p.turn.1, p.turn.2)⟩ g3 g2 rfl
      refine ⟨⟨rfl, h1, by rw [h2, ← g1]; exact i1⟩, fun t a b => ⟨now, List.mem_cons_self, a, by omega, rfl⟩, fun q hq t a b => ?_⟩
      rcases List.mem_cons.1 hq with rfl | hq
      · obtain ⟨h, hm, x1, x2, x3⟩ := i2 t a b
        exact ⟨h, List.mem_cons_of_mem _ hm, x1, x2, x3⟩
      · obtain ⟨h, hm, x1, x2, x3⟩ := i3 q hq t a b
        exact ⟨h, List.mem_cons_of_mem _ hm, x1, x2, x3⟩
    · rename_i he
      have he := Classical.not_not.1 he
      obtain ⟨i1, i2, i3⟩ := runsF_ok f l p.turn.2 ⟨now.who, (now.turn.1, p.turn.2)⟩ g3 (by dsimp only; omega) rfl
      refine ⟨i1, fun t a b => i2 t a (by omega), fun q hq t a b => ?_⟩
      rcases List.mem_cons.1 hq with rfl | hq
      · obtain ⟨h, hm, x1, x2, x3⟩ := i2 t (by dsimp only; omega) b
        exact ⟨h, hm, x1, x2, by rw [x3, he]⟩
      · exact i3 q hq t a b
theorem runsM_ok (f : Pc → Int) {e : Int} {l : List Pc} (h : chP e 0 l) (hne : l ≠ []) : chHo e 0 (runsM f l) ∧ ∀ p ∈ l, ∀ t, p.turn.1 ≤ t → t < p.turn.2 → ∃ h ∈ runsM f l, h.turn.1 ≤ t ∧ t < h.turn.2 ∧ h.who = f p := by
  cases l with
  | nil => exact absurd rfl hne
  | cons p l =>
    obtain ⟨g1, g2, g3⟩ := h
    have e1 : runsM f (p :: l) = runsF f ⟨f p, (0, p.turn.2)⟩ l := by
      show runsF f ⟨f p, (0, 0)⟩ (p :: l) = _
      rw [runsF, if_neg (not_not_intro rfl)]
    rw [e1]
    obtain ⟨i1, i2, i3⟩ := runsF_ok f l p.turn.2 ⟨f p, (0, p.turn.2)⟩ g3 (by dsimp only; omega) rfl
    refine ⟨i1, fun q hq t a b => ?_⟩
    rcases List.mem_cons.1 hq with rfl | hq
    · exact i2 t (by dsimp only; omega) b
    · exact i3 q hq t a b
theorem chHo_mem {e : Int} : ∀ {l : List Ho} {s : Int}, chHo e s l → s ≤ e ∧ ∀ h ∈ l, s ≤ h.turn.1 ∧ h.turn.1 < h.turn.2 ∧ h.turn.2 ≤ e
  | [], s, h => ⟨by simp [chHo] at h; omega, fun x hx => by cases hx⟩
  | h :: l, s, hh => by
    obtain ⟨g1, g2, g3⟩ := hh
    obtain ⟨i1, i2⟩ := chHo_mem g3
    refine ⟨by omega, fun x hx => ?_⟩
    rcases List.mem_cons.1 hx with rfl | hx
    · omega
    · have := i2 x hx; omega
def tus (R : List Ho) : List Sp := R.map (·.turn)
end Go.Proofs.YtkpkebpofpcmaaaGreatDoor

namespace Go.Proofs.YtkpkebpofpcmaaaGreatDoor
open Go Go.Eng

def NPp (p : Pc) : Prop := 0 ≤ p.owner ∧ 0 ≤ p.let_
def NP (l : List Pc) : Prop := ∀ p ∈ l, NPp p
theorem np_cons {p : Pc} {l : List Pc} (h : NPp p) (hl : NP l) : NP (p :: l) := fun q hq => by
  rcases List.mem_cons.1 hq with rfl | hq
  · exact h
  · exact hl q hq
theorem cutP_np {m : Int} : ∀ {l : List Pc}, NP l → NP (cutP m l)
  | [], h => h
  | p :: l, h => by
    have hp := h p List.mem_cons_self
    have hl : NP l := fun q hq => h q (List.mem_cons_of_mem _ hq)
    rw [cutP]
    split
    · exact np_cons hp (np_cons hp hl)
    · exact np_cons hp (cutP_np hl)
theorem cut2_np {t : Sp} {l : List Pc} (h : NP l) : NP (cut2 t l) := cutP_np (cutP_np h)
theorem map_np {f : Pc → Pc} (hf : ∀ p, NPp p → NPp (f p)) {l : List Pc} (h : NP l) : NP (l.map f) := fun q hq => by
  obtain ⟨p, hp, rfl⟩ := List.mem_map.1 hq
  exact hf p (h p hp)
theorem setT_np {t : Sp} {f : Pc → Pc} (hf : ∀ p, NPp p → NPp (f p)) {l : List Pc} (h : NP l) : NP (setT t f l) := map_np (fun p hp => by
  split
  · exact hf p hp
  · exact hp) h
theorem giveM_np {d : Dd} {to : Int} (ht : 0 ≤ to) {l : List Pc} (h : NP l) : NP (giveM d to l).2 := by
  unfold giveM
  split
  · exact setT_np (f := setOwn to) (fun p hp => ⟨ht, hp.2⟩) (cut2_np h)
  · exact cut2_np h
theorem rentM_np {d : Dd} (ht : 0 ≤ d.to) {l : List Pc} (h : NP l) : NP (rentM d l).2 := by
  unfold rentM
  split
  · split
    · exact cut2_np h
    · exact setT_np (f := setLet d) (fun p hp => ⟨hp.1, ht⟩) (cut2_np h)
  · exact cut2_np h
theorem getD_np {l : List Pc} (h : NP l) (k : Nat) : NPp (l.getD k pc0) := by
  rw [List.getD_eq_getElem?_getD]
  cases hg : l[k]? with
  | none => exact ⟨Int.le_refl _, Int.le_refl _⟩
  | some p => exact h p (List.mem_of_getElem? hg)
theorem gvP_np {fr who : Int} (hw : 0 ≤ who) : ∀ (f : Nat) (part : Int) (l : List Pc), NP l → NP (gvP fr who f part l)
  | 0, _, l, h => h
  | f + 1, part, l, h => by
    unfold gvP
    split
    · dsimp only
      refine gvP_np hw f _ _ (fun q hq => ?_)
      rcases List.mem_or_eq_of_mem_set hq with hq | rfl
      · exact cutP_np h q hq
      · exact ⟨hw, (getD_np (cutP_np h) _).2⟩
    · exact h
theorem gvAll_np {fr : Int} : ∀ (q : List (Int × Int)) (l : List Pc), (∀ x ∈ q, 0 ≤ x.1) → NP l → NP (gvAll fr q l)
  | [], l, _, h => h
  | x :: q, l, hq, h => by
    rw [gvAll]
    exact gvAll_np q _ (fun y hy => hq y (List.mem_cons_of_mem _ hy)) (gvP_np (hq x List.mem_cons_self) _ _ _ h)
theorem deathM_np {d : Dd} {dead : Int → Bool} (hh : ∀ h ∈ d.heirs, 0 ≤ h.1) {l : List Pc} (h : NP l) : NP (deathM d l dead).2.1 := by
  unfold deathM
  dsimp only
  refine gvAll_np _ _ (fun x hx => ?_) (map_np (fun p hp => by
    unfold unlet
    split
    · exact ⟨hp.1, Int.le_refl _⟩
    · exact hp) h)
  obtain ⟨h1, _⟩ := List.of_mem_zip hx
  obtain ⟨y, hy, e⟩ := List.mem_map.1 h1
  rw [← e]
  unfold heirsM at hy
  split at hy
  · rw [List.mem_singleton.1 hy]; exact Int.le_refl _
  · exact hh y (List.mem_filter.1 hy).1
theorem heirsB_nn (fr : Int) : ∀ (l : List Sp) (last : Int), 0 ≤ last → last ≤ 9999 → heirsB fr last l = true → ∀ h ∈ l, 0 ≤ h.1
  | [], _, _, _, _, h, hm => by cases hm
  | x :: l, last, h0, h1, hh, h, hm => by
    simp only [heirsB, Bool.and_eq_true, decide_eq_true_eq] at hh
    obtain ⟨⟨⟨a1, a2⟩, _⟩, h4⟩ := hh
    rw [wr_of (show -9223372036854775808 ≤ last + 1 ∧ last + 1 ≤ 9223372036854775807 by omega)] at a1
    rcases List.mem_cons.1 hm with rfl | hm
    · omega
    · exact heirsB_nn fr l x.1 (by omega) (by omega) h4 h hm
theorem doG_np {r : Ro} {d : Dd} (hv : validB r d = true) {l : List Pc} {dead : Int → Bool} (h : NP l) : NP (doG d l dead).2.1 := by
  unfold validB at hv
  cases hk : kfl d.kind with
  | none => rw [hk] at hv; cases hv
  | some q =>
    rw [hk] at hv
    simp only [Bool.and_eq_true, decide_eq_true_eq, flagB] at hv
    obtain ⟨⟨_, _, hfr⟩, h1, h2, h3, h4⟩ := hv
    unfold kfl at hk
    split at hk
    · rename_i k4
      cases hk
      have ht : In d.to 1 9999 ∧ d.to ≠ d.fr := by simpa [toV] using h1
      have e : doG d l dead = ((rentM d l).1, (rentM d l).2, dead) := by unfold doG; rw [if_neg (by omega), if_neg (by omega), if_neg (by omega)]
      rw [e]
      exact rentM_np (by have := ht.1.1; omega) h
    · split at hk
      · rename_i k3
        cases hk
        have hi : inhB d.fr d.heirs = true := by simpa [heV] using h4
        unfold inhB at hi
        simp only [Bool.and_eq_true, decide_eq_true_eq] at hi
        have e : doG d l dead = deathM d l dead := by unfold doG; rw [if_pos k3]
        rw [e]
        exact deathM_np (heirsB_nn d.fr d.heirs 0 (by decide) (by decide) hi.1) h
      · split at hk
        · rename_i k2
          cases hk
          have e : doG d l dead = ((giveM d 0 l).1, (giveM d 0 l).2, dead) := by unfold doG; rw [if_neg (by omega), if_neg (by omega), if_pos k2]
          rw [e]
          exact giveM_np (Int.le_refl _) h
        · split at hk
          · rename_i k1
            cases hk
            have ht : In d.to 1 9999 ∧ d.to ≠ d.fr := by simpa [toV] using h1
            have e : doG d l dead = ((giveM d d.to l).1, (giveM d d.to l).2, dead) := by unfold doG; rw [if_neg (by omega), if_pos k1]
            rw [e]
            exact giveM_np (by have := ht.1.1; omega) h
          · cases hk
theorem runB_np {r : Ro} {day : Int} : ∀ (l : List Dd) (s : PD), (∀ d ∈ l, validB r d = true) → NP s.1 → NP (runB doG day l s).1
  | [], s, _, h => h
  | d :: l, s, hd, h => by
    rw [runB]
    refine runB_np l _ (fun x hx => hd x (List.mem_cons_of_mem _ hx)) ?_
    split
    · unfold stepB tryM
      split
      · exact h
      · exact doG_np (hd d List.mem_cons_self) h
    · exact h
theorem chainH_np {e : Int} : ∀ {l : List Ho} {now : Int}, chainH e now l → NP (l.map toPc)
  | [], now, h => fun p hp => by cases hp
  | h :: l, now, hh => np_cons ⟨hh.1.1, Int.le_refl _⟩ (chainH_np hh.2.2.2)
theorem uM_np {r : Ro} {l : List Dd} {day : Int} (h0 : (uM r l day).1 = 0) : NP (uM r l day).2.1 := by
  unfold uM untilM at h0 ⊢
  split at h0
  · rename_i h1; exact absurd h0 h1
  · rename_i h1
    rw [if_neg h1]
    split at h0
    · cases h0
    · rename_i h2
      rw [if_neg h2]
      have h1' := Classical.not_not.1 h1
      have hro : OkRo r := by
        apply Classical.byContradiction
        intro g
        have : (readM srtD r l).1 = 40 := by unfold readM; rw [if_pos (by rw [chkRo_no g]; decide), chkRo_no g]
        rw [this] at h1'; cases h1'
      refine runB_np (r := r) _ _ (fun d hd => ?_) (chainH_np ((chainB_iff _ _ _).1 hro.2.2))
      unfold readM at h1' hd
      rw [if_neg (by rw [chkRo_ok hro]; simp)] at h1' hd
      split at h1'
      · cases h1'
      · rename_i g1
        rw [if_neg g1] at hd
        split at h1'
        · cases h1'
        · rename_i g2
          rw [if_neg g2] at hd
          split at hd
          · cases hd
          · rename_i acc g3
            rcases onceM_mem l [] acc g3 _ (srtD_mem acc _ hd) with h | ⟨y, hy, e⟩
            · cases h
            · have hvy : validB r y = true := by
                cases hv : validB r y with
                | true => rfl
                | false => exact absurd (List.any_eq_true.2 ⟨y, hy, by rw [hv]; rfl⟩) g2
              have e2 : validB r (er y) = validB r y := rfl
              rw [e, e2]; exact hvy
theorem userP_np {p : Pc} (h : NPp p) (day : Int) : 0 ≤ userP p day := by
  unfold userP
  split
  · exact h.2
  · exact h.1
theorem runsF_nn (f : Pc → Int) : ∀ (l : List Pc) (now : Ho), 0 ≤ now.who → (∀ p ∈ l, 0 ≤ f p) → ∀ h ∈ runsF f now l, 0 ≤ h.who
  | [], now, hn, _, h, hm => by rw [runsF] at hm; rw [List.mem_singleton.1 hm]; exact hn
  | p :: l, now, hn, hf, h, hm => by
    have hl := fun q hq => hf q (List.mem_cons_of_mem p hq)
    rw [runsF] at hm
    split at hm
    · rcases List.mem_cons.1 hm with rfl | hm
      · exact hn
      · exact runsF_nn f l _ (hf p List.mem_cons_self) hl h hm
    · exact runsF_nn f l ⟨now.who, (now.turn.1, p.turn.2)⟩ hn hl h hm
theorem useR_nn {r : Ro} {l : List Dd} {day : Int} (h0 : (uM r l day).1 = 0) : ∀ h ∈ useR r l day, 0 ≤ h.who := by
  have hnp := uM_np h0
  unfold useR
  rw [if_pos h0]
  exact runsF_nn _ _ _ (userP_np (getD_np hnp 0) day) (fun p hp => userP_np (hnp p hp) day)
end Go.Proofs.YtkpkebpofpcmaaaGreatDoor
