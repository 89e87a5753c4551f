/- Plain law: readings that are named do not fit, and without any one of them the others do. -/
import Derived.Test.YtoolblbdmmiahaaDoorLO
namespace Go.Proofs.YtoolblbdmmiahaaDoor
open Go Go.Eng Go.RowKit Go.Proofs

/-- The survey with some readings alone. -/
def onlyS (S : Sv) (l : List Nat) : Sv := ⟨S.pts, l.filterMap (fun k => if k < S.shots.length then S.shots[k]? else none), l.filterMap (fun k => if k < S.shots.length then none else S.marks[k - S.shots.length]?), []⟩
theorem rds_get (S : Sv) (k : Nat) : (rds S)[k]? = if k < S.shots.length then (S.shots[k]?).map (fun x => (x.fr.toNat, x.to.toNat, x.rise)) else (S.marks[k - S.shots.length]?).map (fun x => (S.pts.toNat, x.pt.toNat, x.ht)) := by
  unfold rds
  split
  · rw [List.getElem?_append_left (by simpa using by assumption), List.getElem?_map]
  · rw [List.getElem?_append_right (by simp; omega), List.getElem?_map, List.length_map]
theorem rds_len (S : Sv) : (rds S).length = S.shots.length + S.marks.length := by simp [rds]
theorem F0_only {S : Sv} {l : List Nat} {h : Nat → Int} : F0 (onlyS S l) h ↔ (∀ i, i < S.pts.toNat → -10000000 ≤ h i - h S.pts.toNat ∧ h i - h S.pts.toNat ≤ 10000000) ∧ ∀ k ∈ l, ∀ x, (rds S)[k]? = some x → Fits 0 h x := by
  constructor
  · rintro ⟨h1, h2, h3⟩
    refine ⟨h1, fun k hk x hx => ?_⟩
    rw [rds_get] at hx
    split at hx
    · rename_i hlt
      obtain ⟨y, hy, rfl⟩ := Option.map_eq_some_iff.1 hx
      have := h2 y (List.mem_filterMap.2 ⟨k, hk, by rw [if_pos hlt]; exact hy⟩)
      simpa [Fits] using this
    · rename_i hlt
      obtain ⟨y, hy, rfl⟩ := Option.map_eq_some_iff.1 hx
      have := h3 y (List.mem_filterMap.2 ⟨k, hk, by rw [if_neg hlt]; exact hy⟩)
      have e : (onlyS S l).pts = S.pts := rfl
      rw [e] at this
      simpa [Fits] using this
  · rintro ⟨h1, h2⟩
    refine ⟨h1, fun y hy => ?_, fun y hy => ?_⟩
    · obtain ⟨k, hk, hky⟩ := List.mem_filterMap.1 hy
      split at hky
      · rename_i hlt
        have := h2 k hk _ (by rw [rds_get, if_pos hlt, hky]; rfl)
        simpa [Fits] using this
      · cases hky
    · obtain ⟨k, hk, hky⟩ := List.mem_filterMap.1 hy
      split at hky
      · cases hky
      · rename_i hlt
        have := h2 k hk _ (by rw [rds_get, if_neg hlt, hky]; rfl)
        have e : (onlyS S l).pts = S.pts := rfl
        rw [e]
        simpa [Fits] using this
theorem filterMap_len {α β : Type} (f : α → Option β) (l : List α) : (l.filterMap f).length ≤ l.length := List.length_filterMap_le f l
theorem only_ok {S : Sv} (hS : OkSv S) {l : List Nat} (hl : l.Pairwise (· < ·)) (hlt : ∀ k ∈ l, k < S.shots.length + S.marks.length) : OkSv (onlyS S l) := by
  obtain ⟨h1, h2, h3, h4, h5, h6, h7⟩ := hS
  have hb : ∀ (l : List Nat) (a n : Nat), l.Pairwise (· < ·) → (∀ k ∈ l, a ≤ k ∧ k < a + n) → l.length ≤ n := by
    intro l
    induction l with
    | nil => intro a n _ _; simp
    | cons x l ih =>
      intro a n hp hk
      have hx := hk x List.mem_cons_self
      obtain ⟨p1, p2⟩ := List.pairwise_cons.1 hp
      have := ih (x + 1) (a + n - (x + 1)) p2 (fun k hkl => ⟨p1 k hkl, by have := (hk k (List.mem_cons_of_mem _ hkl)).2; omega⟩)
      simp only [List.length_cons]; omega
  have e1 : (l.filterMap (fun k => if k < S.shots.length then S.shots[k]? else none)).length ≤ S.shots.length := by
    have e : l.filterMap (fun k => if k < S.shots.length then S.shots[k]? else none) = (l.filter (fun k => decide (k < S.shots.length))).filterMap (fun k => S.shots[k]?) := by
      rw [List.filterMap_filter]
      congr 1; funext k; by_cases h : k < S.shots.length <;> simp [h]
    rw [e]
    refine Nat.le_trans (filterMap_len _ _) (hb _ 0 _ (hl.filter _) (fun k hk => ?_))
    have := (List.mem_filter.1 hk).2
    simp at this; omega
  have e2 : (l.filterMap (fun k => if k < S.shots.length then none else S.marks[k - S.shots.length]?)).length ≤ S.marks.length := by
    have e : l.filterMap (fun k => if k < S.shots.length then none else S.marks[k - S.shots.length]?) = (l.filter (fun k => decide (¬ k < S.shots.length))).filterMap (fun k => S.marks[k - S.shots.length]?) := by
      rw [List.filterMap_filter]
      congr 1; funext k; by_cases h : k < S.shots.length <;> simp [h]
    rw [e]
    refine Nat.le_trans (filterMap_len _ _) (hb _ S.shots.length _ (hl.filter _) (fun k hk => ?_))
    have h9 := List.mem_filter.1 hk
    have h8 := hlt k h9.1
    have := h9.2
    simp at this; omega
  refine ⟨h1, by simp only [onlyS]; omega, by simp only [onlyS]; omega, by simp [onlyS], fun x hx => ?_, fun x hx => ?_, fun x hx => by simp [onlyS] at hx⟩
  · obtain ⟨k, _, hk⟩ := List.mem_filterMap.1 hx
    split at hk
    · exact h5 x (List.mem_of_getElem? hk)
    · cases hk
  · obtain ⟨k, _, hk⟩ := List.mem_filterMap.1 hx
    split at hk
    · cases hk
    · exact h6 x (List.mem_of_getElem? hk)
theorem only_solve {S : Sv} (hS : OkSv S) {l : List Nat} (hl : l.Pairwise (· < ·)) (hlt : ∀ k ∈ l, k < S.shots.length + S.marks.length) {o : Nat → Bool} (ho : ∀ i, i < S.shots.length + S.marks.length → (o i = false ↔ i ∈ l)) : okS (onlyS S l) = (solveR S o 0).2 := by
  have key : okS (onlyS S l) = true ↔ (solveR S o 0).2 = true := by
    rw [ok_iff (only_ok hS hl hlt), fits_iff hS]
    refine exists_congr fun h => ?_
    rw [F0_only]
    refine and_congr_right fun _ => ⟨fun hh i x hx hoi => hh i ((ho i (by rw [← rds_len]; exact (List.getElem?_eq_some_iff.1 hx).1)).1 hoi) x hx, fun hh k hk x hx => hh k x hx ((ho k (hlt k hk)).2 hk)⟩
  cases h1 : okS (onlyS S l) <;> cases h2 : (solveR S o 0).2 <;> simp_all
/-- What is named. -/
def clashL (S : Sv) : List Nat := (clK S (S.shots.length + S.marks.length)).2
theorem clash_named {S : Sv} (hS : OkSv S) (h0 : okS S = false) : (clashL S).Pairwise (· < ·) ∧ (∀ k ∈ clashL S, k < S.shots.length + S.marks.length) ∧ okS (onlyS S (clashL S)) = false ∧
    ∀ (q : Nat), q < (clashL S).length → okS (onlyS S ((clashL S).take q ++ (clashL S).drop (q + 1))) = true := by
  obtain ⟨a1, a2, a3, a4, a5⟩ := clK_spec hS h0 (S.shots.length + S.marks.length)
  refine ⟨a3, a2, ?_, fun q hq => ?_⟩
  · rw [show okS (onlyS S (clashL S)) = _ from only_solve hS a3 a2 (o := (clK S (S.shots.length + S.marks.length)).1) ?_]
    · exact a4
    · intro i hi
      have h1 := a1 i
      constructor
      · intro h
        apply Classical.byContradiction
        intro h2
        rw [h1.2 ⟨hi, h2⟩] at h; cases h
      · intro h
        cases hc : (clK S (S.shots.length + S.marks.length)).1 i with
        | false => rfl
        | true => exact absurd h (h1.1 hc).2
  · have hk : (clashL S)[q] ∈ clashL S := List.getElem_mem hq
    have hsplit : clashL S = (clashL S).take q ++ (clashL S)[q] :: (clashL S).drop (q + 1) := by
      rw [List.getElem_cons_drop]; exact (List.take_append_drop q _).symm
    have hsub : ((clashL S).take q ++ (clashL S).drop (q + 1)).Sublist (clashL S) := by
      conv => rhs; rw [hsplit]
      exact (List.sublist_cons_self _ _).append_left _
    have hp : ((clashL S).take q ++ (clashL S).drop (q + 1)).Pairwise (· < ·) := a3.sublist hsub
    have hnot : (clashL S)[q] ∉ (clashL S).take q ++ (clashL S).drop (q + 1) := by
      have hpp : (clashL S).Pairwise (· < ·) := a3
      rw [hsplit] at hpp
      obtain ⟨p1, p2, p3⟩ := List.pairwise_append.1 hpp
      obtain ⟨p4, _⟩ := List.pairwise_cons.1 p2
      intro h
      rcases List.mem_append.1 h with h | h
      · have := p3 _ h _ List.mem_cons_self; omega
      · have := p4 _ h; omega
    rw [only_solve hS hp (fun k hk => a2 k (hsub.subset hk)) (o := withOut (clK S (S.shots.length + S.marks.length)).1 (clashL S)[q])]
    · exact a5 _ hk
    · intro i hi
      unfold withOut
      rw [Bool.or_eq_false_iff, decide_eq_false_iff_not]
      have h1 := a1 i
      constructor
      · rintro ⟨h2, h3⟩
        have him : i ∈ clashL S := by
          apply Classical.byContradiction
          intro h4
          rw [h1.2 ⟨hi, h4⟩] at h3; cases h3
        rw [hsplit] at him
        rcases List.mem_append.1 him with h | h
        · exact List.mem_append_left _ h
        · rcases List.mem_cons.1 h with h | h
          · exact absurd h h2
          · exact List.mem_append_right _ h
      · intro h
        refine ⟨fun e => hnot (e ▸ h), ?_⟩
        cases hc : (clK S (S.shots.length + S.marks.length)).1 i with
        | false => rfl
        | true => exact absurd (hsub.subset h) (h1.1 hc).2
end Go.Proofs.YtoolblbdmmiahaaDoor
