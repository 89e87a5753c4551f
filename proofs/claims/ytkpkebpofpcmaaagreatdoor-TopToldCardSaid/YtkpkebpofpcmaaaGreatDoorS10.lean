/- Plain laws of runs: turns follow one another; each minute's run is whose the minute's piece is; which turns may be on. -/
import Derived.Test.YtkpkebpofpcmaaaGreatDoorS8
import Derived.Test.YtkpkebpofpcmaaaGreatDoorH10
import Derived.Test.YtkpkebpofpcmaaaGreatDoorR1
namespace Go.Proofs.YtkpkebpofpcmaaaGreatDoor
open Go Go.Eng

def chHo (e : Int) : Int → List Ho → Prop
  | s, [] => s = e
  | s, h :: l => h.turn.1 = s ∧ h.turn.1 < h.turn.2 ∧ chHo e h.turn.2 l
theorem runsF_ok (f : Pc → Int) {e : Int} : ∀ (l : List Pc) (s : Int) (now : Ho), chP e s l → now.turn.1 < now.turn.2 → now.turn.2 = s →
    chHo e now.turn.1 (runsF f now l) ∧ (∀ t, now.turn.1 ≤ t → t < s → ∃ h ∈ runsF f now l, h.turn.1 ≤ t ∧ t < h.turn.2 ∧ h.who = now.who) ∧ (∀ p ∈ l, ∀ t, p.turn.1 ≤ t → t < p.turn.2 → ∃ h ∈ runsF f now l, h.turn.1 ≤ t ∧ t < h.turn.2 ∧ h.who = f p)
  | [], s, now, h, h1, h2 => by
    simp [chP] at h
    refine ⟨⟨rfl, h1, by rw [h2]; exact h⟩, fun t a b => ⟨now, by simp [runsF], a, by omega, rfl⟩, fun p hp => by cases hp⟩
  | p :: l, s, now, h, h1, h2 => by
    obtain ⟨g1, g2, g3⟩ := h
    rw [runsF]
    split
    · rename_i hne
      obtain ⟨i1, i2, i3⟩ := runsF_ok f l p.turn.2 ⟨f p, (p.turn.1, p.turn.2)⟩ g3 g2 rfl
      refine ⟨⟨rfl, h1, by rw [h2, ← g1]; exact i1⟩, fun t a b => ⟨now, List.mem_cons_self, a, by omega, rfl⟩, fun q hq t a b => ?_⟩
      rcases List.mem_cons.1 hq with rfl | hq
      · obtain ⟨h, hm, x1, x2, x3⟩ := i2 t a b
        exact ⟨h, List.mem_cons_of_mem _ hm, x1, x2, x3⟩
      · obtain ⟨h, hm, x1, x2, x3⟩ := i3 q hq t a b
        exact ⟨h, List.mem_cons_of_mem _ hm, x1, x2, x3⟩
    · rename_i he
      have he := Classical.not_not.1 he
      obtain ⟨i1, i2, i3⟩ := runsF_ok f l p.turn.2 ⟨now.who, (now.turn.1, p.turn.2)⟩ g3 (by dsimp only; omega) rfl
      refine ⟨i1, fun t a b => i2 t a (by omega), fun q hq t a b => ?_⟩
      rcases List.mem_cons.1 hq with rfl | hq
      · obtain ⟨h, hm, x1, x2, x3⟩ := i2 t (by dsimp only; omega) b
        exact ⟨h, hm, x1, x2, by rw [x3, he]⟩
      · exact i3 q hq t a b
theorem runsM_ok (f : Pc → Int) {e : Int} {l : List Pc} (h : chP e 0 l) (hne : l ≠ []) : chHo e 0 (runsM f l) ∧ ∀ p ∈ l, ∀ t, p.turn.1 ≤ t → t < p.turn.2 → ∃ h ∈ runsM f l, h.turn.1 ≤ t ∧ t < h.turn.2 ∧ h.who = f p := by
  cases l with
  | nil => exact absurd rfl hne
  | cons p l =>
    obtain ⟨g1, g2, g3⟩ := h
    have e1 : runsM f (p :: l) = runsF f ⟨f p, (0, p.turn.2)⟩ l := by
      show runsF f ⟨f p, (0, 0)⟩ (p :: l) = _
      rw [runsF, if_neg (not_not_intro rfl)]
    rw [e1]
    obtain ⟨i1, i2, i3⟩ := runsF_ok f l p.turn.2 ⟨f p, (0, p.turn.2)⟩ g3 (by dsimp only; omega) rfl
    refine ⟨i1, fun q hq t a b => ?_⟩
    rcases List.mem_cons.1 hq with rfl | hq
    · exact i2 t (by dsimp only; omega) b
    · exact i3 q hq t a b
theorem chHo_mem {e : Int} : ∀ {l : List Ho} {s : Int}, chHo e s l → s ≤ e ∧ ∀ h ∈ l, s ≤ h.turn.1 ∧ h.turn.1 < h.turn.2 ∧ h.turn.2 ≤ e
  | [], s, h => ⟨by simp [chHo] at h; omega, fun x hx => by cases hx⟩
  | h :: l, s, hh => by
    obtain ⟨g1, g2, g3⟩ := hh
    obtain ⟨i1, i2⟩ := chHo_mem g3
    refine ⟨by omega, fun x hx => ?_⟩
    rcases List.mem_cons.1 hx with rfl | hx
    · omega
    · have := i2 x hx; omega
theorem chHo_sep {e : Int} : ∀ {l : List Ho} {s : Int} {i j : Nat} {x y : Ho}, chHo e s l → l[i]? = some x → l[j]? = some y → i < j → x.turn.2 ≤ y.turn.1
  | [], s, i, j, x, y, _, hx, _, _ => by simp at hx
  | h :: l, s, 0, j + 1, x, y, hh, hx, hy, _ => by
    simp at hx; subst hx
    exact ((chHo_mem hh.2.2).2 y (List.mem_of_getElem? (by simpa using hy))).1
  | h :: l, s, i + 1, j + 1, x, y, hh, hx, hy, hij => chHo_sep hh.2.2 (by simpa using hx) (by simpa using hy) (by omega)
def tus (R : List Ho) : List Sp := R.map (·.turn)
theorem tus_get {R : List Ho} {i : Nat} {h : Ho} (hh : R[i]? = some h) : (tus R)[i]? = some h.turn := by unfold tus; rw [List.getElem?_map, hh]; rfl
theorem tus_len (R : List Ho) : (tus R).length = R.length := List.length_map _
theorem tus_some {R : List Ho} {i : Nat} {x : Sp} (h : (tus R)[i]? = some x) : ∃ y, R[i]? = some y ∧ y.turn = x := by
  unfold tus at h
  rw [List.getElem?_map] at h
  cases hr : R[i]? with
  | none => rw [hr] at h; cases h
  | some y => rw [hr] at h; simp at h; exact ⟨y, rfl, h⟩
theorem okTurns_of {e : Int} {R : List Ho} (h : chHo e 0 R) (he : e ≤ 23040) : okTurns (tus R) := by
  intro j x hx
  obtain ⟨y, hy, rfl⟩ := tus_some hx
  have hm := (chHo_mem h).2 y (List.mem_of_getElem? hy)
  have hw : wr (y.turn.1 + 1) = y.turn.1 + 1 := wr_of (by omega)
  unfold okT
  rw [hw]
  refine ⟨⟨?_, by omega⟩, by omega, by omega⟩
  unfold lastA
  split
  · omega
  · rename_i hj
    have hlt : j - 1 < R.length := by have := (List.getElem?_eq_some_iff.1 hy).1; omega
    obtain ⟨z, hz⟩ : ∃ z, R[j - 1]? = some z := ⟨_, List.getElem?_eq_getElem hlt⟩
    rw [List.getD_eq_getElem?_getD, tus_get hz]
    exact chHo_sep h hz hy (by omega)
theorem sureO_cases (l : List Sp) (a : Sp) : ∀ n, sureO l a n = -1 ∨ ∃ i, i < n ∧ sureO l a n = ((firstO l a + i : Nat) : Int) ∧ (l.getD (firstO l a + i) (0, 0)).1 ≤ a.1 ∧ a.2 < (l.getD (firstO l a + i) (0, 0)).2
  | 0 => .inl rfl
  | n + 1 => by
    unfold sureO
    split
    · rename_i h; exact .inr ⟨n, by omega, rfl, h.1, h.2⟩
    · rcases sureO_cases l a n with h | ⟨i, h1, h2, h3⟩
      · exact .inl h
      · exact .inr ⟨i, by omega, h2, h3⟩
/-- What On tells of runs in a chain, and a minute that may be. -/
theorem on_law {e : Int} {R : List Ho} (h : chHo e 0 R) {s : Sp} {n : Nat} (hle : firstO (tus R) s + n ≤ (tus R).length) (hbrk : ∀ x, (tus R)[firstO (tus R) s + n]? = some x → brkO s x) {now : Int} (h1 : s.1 ≤ now) (h2 : now ≤ s.2) {q : Nat} {y : Ho} (hq : R[q]? = some y) (hq1 : y.turn.1 ≤ now) (hq2 : now < y.turn.2) :
    firstO (tus R) s ≤ q ∧ q < firstO (tus R) s + n := by
  have hql := (List.getElem?_eq_some_iff.1 hq).1
  have hF : firstO (tus R) s ≤ q ∧ ∃ z, R[firstO (tus R) s]? = some z ∧ s.1 < z.turn.2 := by
    unfold firstO
    rcases fidx_spec (fun x : Sp => decide (s.1 < x.2)) (tus R) with ⟨_, hall⟩ | ⟨i, x, hi, hx, hp, hno⟩
    · have := hall y.turn (List.mem_of_getElem? (tus_get hq))
      simp at this; omega
    · have e1 : (max (fidx (fun x : Sp => decide (s.1 < x.2)) (tus R)) 0).toNat = i := by omega
      rw [e1]
      obtain ⟨z, hz, rfl⟩ := tus_some hx
      refine ⟨?_, z, hz, by simpa using hp⟩
      rcases Nat.lt_or_ge q i with g | g
      · have := hno q y.turn g (tus_get hq)
        simp at this; omega
      · exact g
  obtain ⟨hF1, z, hz, hzs⟩ := hF
  refine ⟨hF1, ?_⟩
  rcases Nat.lt_or_ge q (firstO (tus R) s + n) with g | g
  · exact g
  · exfalso
    rw [tus_len] at hle
    obtain ⟨x, hx⟩ : ∃ x, R[firstO (tus R) s + n]? = some x := ⟨_, List.getElem?_eq_getElem (by omega)⟩
    have hb := hbrk x.turn (tus_get hx)
    have hxm := (chHo_mem h).2 x (List.mem_of_getElem? hx)
    have a1 : x.turn.1 ≤ now := by
      rcases Nat.lt_or_ge (firstO (tus R) s + n) q with g2 | g2
      · have := chHo_sep h hx hq g2; omega
      · have : firstO (tus R) s + n = q := by omega
        rw [this, hq] at hx; cases hx; exact hq1
    have a2 : s.1 < x.turn.2 := by
      cases n with
      | zero => rw [Nat.add_zero, hz] at hx; cases hx; exact hzs
      | succ n => have := chHo_sep h hz hx (by omega); omega
    unfold brkO at hb; omega
theorem uniq_run {e : Int} {R : List Ho} (h : chHo e 0 R) {i j : Nat} {x y : Ho} (hx : R[i]? = some x) (hy : R[j]? = some y) {t : Int} (h1 : x.turn.1 ≤ t ∧ t < x.turn.2) (h2 : y.turn.1 ≤ t ∧ t < y.turn.2) : i = j := by
  rcases Nat.lt_trichotomy i j with g | g | g
  · have := chHo_sep h hx hy g; omega
  · exact g
  · have := chHo_sep h hy hx g; omega
theorem find_at {e : Int} {m : Int} : ∀ {l : List Pc} {s : Int}, chP e s l → s ≤ m → m < e → ∃ p, l.find? (hasB m) = some p ∧ p ∈ l ∧ p.turn.1 ≤ m ∧ m < p.turn.2
  | [], s, h, h1, h2 => by simp [chP] at h; omega
  | p :: l, s, h, h1, h2 => by
    obtain ⟨g1, g2, g3⟩ := h
    by_cases hm : m < p.turn.2
    · exact ⟨p, by simp [hasB, hm]; omega, List.mem_cons_self, by omega, hm⟩
    · obtain ⟨q, i1, i2, i3⟩ := find_at g3 (by omega) h2
      refine ⟨q, ?_, List.mem_cons_of_mem _ i2, i3⟩
      rw [List.find?_cons_of_neg (by simp [hasB]; omega)]; exact i1
theorem find_in {m : Int} {l : List Pc} {p : Pc} (h : l.find? (hasB m) = some p) : p ∈ l ∧ p.turn.1 ≤ m ∧ m < p.turn.2 := by
  have := List.find?_some h
  simp [hasB] at this
  exact ⟨List.mem_of_find?_eq_some h, this⟩
/-- What the runs tell of a minute that may be. -/
theorem told_law (f : Pc → Int) {e : Int} {P : List Pc} (hcp : chP e 0 P) (hne : P ≠ []) {s : Sp} {n : Nat} (hle : firstO (tus (runsM f P)) s + n ≤ (tus (runsM f P)).length) (hbrk : ∀ x, (tus (runsM f P))[firstO (tus (runsM f P)) s + n]? = some x → brkO s x) {now : Int} (h1 : s.1 ≤ now) (h2 : now ≤ s.2) :
    (P.find? (hasB now) = none → sureO (tus (runsM f P)) s n = -1) ∧ ∀ p, P.find? (hasB now) = some p → ∃ q y, (runsM f P)[q]? = some y ∧ y.turn.1 ≤ now ∧ now < y.turn.2 ∧ y.who = f p ∧ firstO (tus (runsM f P)) s ≤ q ∧ q < firstO (tus (runsM f P)) s + n ∧ (sureO (tus (runsM f P)) s n = -1 ∨ sureO (tus (runsM f P)) s n = (q : Int)) := by
  obtain ⟨hR, hcov⟩ := runsM_ok f hcp hne
  obtain ⟨R, hRd⟩ : ∃ R, R = runsM f P := ⟨_, rfl⟩
  rw [← hRd] at hR hcov hle hbrk ⊢
  have key : ∀ i, i < n → (((tus R).getD (firstO (tus R) s + i) (0, 0)).1 ≤ s.1) → s.2 < ((tus R).getD (firstO (tus R) s + i) (0, 0)).2 → ∃ x, R[firstO (tus R) s + i]? = some x ∧ x.turn.1 ≤ now ∧ now < x.turn.2 := fun i hi a b => by
    rw [tus_len] at hle
    obtain ⟨x, hx⟩ : ∃ x, R[firstO (tus R) s + i]? = some x := ⟨_, List.getElem?_eq_getElem (by omega)⟩
    have ex : (tus R).getD (firstO (tus R) s + i) (0, 0) = x.turn := by rw [List.getD_eq_getElem?_getD, tus_get hx]; rfl
    rw [ex] at a b
    exact ⟨x, hx, by omega, by omega⟩
  constructor
  · intro hn
    rcases sureO_cases (tus R) s n with h | ⟨i, hi, _, a, b⟩
    · exact h
    · exfalso
      obtain ⟨x, hx, x1, x2⟩ := key i hi a b
      have hm := (chHo_mem hR).2 x (List.mem_of_getElem? hx)
      obtain ⟨p, hp, _⟩ := find_at (m := now) hcp (by omega) (by omega)
      rw [hn] at hp; cases hp
  · intro p hp
    obtain ⟨hpm, p1, p2⟩ := find_in hp
    obtain ⟨y, hy, y1, y2, y3⟩ := hcov p hpm now p1 p2
    obtain ⟨q, hql, rfl⟩ := List.getElem_of_mem hy
    have hq : R[q]? = some R[q] := List.getElem?_eq_getElem hql
    obtain ⟨i1, i2⟩ := on_law hR hle hbrk h1 h2 hq y1 y2
    refine ⟨q, _, hq, y1, y2, y3, i1, i2, ?_⟩
    rcases sureO_cases (tus R) s n with h | ⟨i, hi, he, a, b⟩
    · exact .inl h
    · obtain ⟨x, hx, x1, x2⟩ := key i hi a b
      have := uniq_run hR hx hq ⟨x1, x2⟩ ⟨y1, y2⟩
      exact .inr (by rw [he, this])
theorem pickR_in {s : Sp} (n : Int) (h : s.1 ≤ s.2) : s.1 ≤ pickR s n ∧ pickR s n ≤ s.2 := by
  have h1 : 0 ≤ n % (s.2 - s.1 + 1) := Int.emod_nonneg _ (by omega)
  have h2 : n % (s.2 - s.1 + 1) < s.2 - s.1 + 1 := Int.emod_lt_of_pos _ (by omega)
  unfold pickR; omega
end Go.Proofs.YtkpkebpofpcmaaaGreatDoor
