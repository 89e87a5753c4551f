/- Plain Lean: the best of all cuts, found in two ways. -/
import Derived.Test.YtccgplomnjpniaaE0
namespace Go.Proofs.Ytccgplomnjpniaa.Pick

/-- Numbers that rise, from lo on, below n. -/
def Inc (n : Nat) : Int → List Int → Prop
  | _, [] => True
  | lo, x :: l => lo ≤ x ∧ x ≤ (n : Int) - 1 ∧ Inc n (x + 1) l
/-- In order of the words: a before b, of one length. -/
def lexB : List Int → List Int → Bool
  | x :: a, y :: b => if x = y then lexB a b else decide (x < y)
  | _, _ => false
/-- Fewer, or as many and before them. -/
def bef (a b : List Int) : Bool := if a.length = b.length then lexB a b else decide (a.length < b.length)

theorem lexB_irrefl : ∀ a, lexB a a = false := by
  intro a
  induction a with
  | nil => rfl
  | cons x a ih => simp [lexB, ih]
theorem lexB_total : ∀ a b : List Int, a.length = b.length → lexB a b = false → lexB b a = false → a = b := by
  intro a
  induction a with
  | nil => intro b h _ _; cases b with
    | nil => rfl
    | cons y b => simp at h
  | cons x a ih => intro b h h1 h2; cases b with
    | nil => simp at h
    | cons y b =>
      simp only [lexB] at h1 h2
      by_cases e : x = y
      · subst e
        simp at h1 h2 h
        rw [ih b h h1 h2]
      · have e' : ¬ y = x := fun h => e h.symm
        rw [if_neg e] at h1
        rw [if_neg e'] at h2
        simp at h1 h2
        omega
theorem bef_total {a b : List Int} (h1 : bef a b = false) (h2 : bef b a = false) : a = b := by
  unfold bef at h1 h2
  by_cases e : a.length = b.length
  · rw [if_pos e] at h1
    rw [if_pos e.symm] at h2
    exact lexB_total a b e h1 h2
  · rw [if_neg e] at h1
    rw [if_neg (fun h => e h.symm)] at h2
    simp at h1 h2
    omega
theorem lexB_asymm : ∀ a b, lexB a b = true → lexB b a = false := by
  intro a
  induction a with
  | nil => intro b h; simp [lexB] at h
  | cons x a ih => intro b h; cases b with
    | nil => simp [lexB] at h
    | cons y b =>
      simp only [lexB] at h ⊢
      by_cases e : x = y
      · subst e; simp at h ⊢; exact ih b h
      · rw [if_neg e] at h
        rw [if_neg (fun h => e h.symm)]
        simp at h ⊢; omega
theorem lexB_trans : ∀ a b c : List Int, lexB a b = true → lexB b c = true → lexB a c = true := by
  intro a
  induction a with
  | nil => intro b c h; simp [lexB] at h
  | cons x a ih => intro b c h1 h2; cases b with
    | nil => simp [lexB] at h1
    | cons y b => cases c with
      | nil => simp [lexB] at h2
      | cons z c =>
        simp only [lexB] at h1 h2 ⊢
        by_cases e1 : x = y
        · subst e1
          simp at h1
          by_cases e2 : x = z
          · subst e2; simp at h2 ⊢; exact ih b c h1 h2
          · rw [if_neg e2] at h2 ⊢; exact h2
        · rw [if_neg e1] at h1
          simp at h1
          by_cases e2 : y = z
          · subst e2; rw [if_neg e1]; simp; exact h1
          · rw [if_neg e2] at h2
            simp at h2
            rw [if_neg (by omega)]; simp; omega
theorem bef_asymm {a b : List Int} (h : bef a b = true) : bef b a = false := by
  unfold bef at *
  by_cases e : a.length = b.length
  · rw [if_pos e] at h; rw [if_pos e.symm]; exact lexB_asymm _ _ h
  · rw [if_neg e] at h; rw [if_neg (fun h => e h.symm)]; simp at h ⊢; omega
theorem bef_trans {a b c : List Int} (h1 : bef a b = true) (h2 : bef b c = true) : bef a c = true := by
  unfold bef at *
  by_cases e1 : a.length = b.length
  · rw [if_pos e1] at h1
    by_cases e2 : b.length = c.length
    · rw [if_pos e2] at h2
      rw [if_pos (by omega)]; exact lexB_trans _ _ _ h1 h2
    · rw [if_neg e2] at h2
      rw [if_neg (by omega)]; simp at h2 ⊢; omega
  · rw [if_neg e1] at h1
    simp at h1
    by_cases e2 : b.length = c.length
    · rw [if_neg (by omega)]; simp; omega
    · rw [if_neg e2] at h2
      simp at h2
      rw [if_neg (by omega)]; simp; omega
theorem bef_nil (a : List Int) : bef a [] = false := by
  unfold bef
  cases a with
  | nil => rfl
  | cons x a => simp

abbrev St := List Int × Int
section
variable (W : List Int → Int)
/-- Better alone is taken. -/
def up1 (s : St) (l : List Int) : St := if s.2 < W l then (l, W l) else s
/-- Better, or as good and before it. -/
def up2 (s : St) (l : List Int) : St := if s.2 < W l ∨ (W l = s.2 ∧ bef l s.1 = true) then (l, W l) else s
/-- s is the best of all lists for which p holds, and of none. -/
structure Best (p : List Int → Prop) (s : St) : Prop where
  worth : s.2 = W s.1
  here : p s.1 ∨ s.1 = []
  top : ∀ l, p l ∨ l = [] → W l < s.2 ∨ (W l = s.2 ∧ bef l s.1 = false)
variable {W}
theorem Best.unique {p : List Int → Prop} {s t : St} (hs : Best W p s) (ht : Best W p t) : s = t := by
  have h1 := hs.top t.1 ht.here
  have h2 := ht.top s.1 hs.here
  have e1 := hs.worth
  have e2 := ht.worth
  obtain ⟨a, x⟩ := s
  obtain ⟨b, y⟩ := t
  dsimp only at *
  rcases h1 with h1 | ⟨h1, h1'⟩
  · rcases h2 with h2 | ⟨h2, _⟩ <;> omega
  · rcases h2 with h2 | ⟨h2, h2'⟩
    · omega
    · have := bef_total h1' h2'
      subst this
      rw [show x = y by omega]
theorem up1_best (h0 : ∀ l, 0 ≤ W l) (hn : W [] = 0) : ∀ (L : List (List Int)), L.Pairwise (fun a b => bef a b = true) → Best W (fun l => l ∈ L) (L.foldl (up1 W) ([], 0)) := by
  have key : ∀ (L M : List (List Int)) (s : St), (M ++ L).Pairwise (fun a b => bef a b = true) → Best W (fun l => l ∈ M) s → Best W (fun l => l ∈ M ++ L) (L.foldl (up1 W) s) := by
    intro L
    induction L with
    | nil => intro M s _ h; simpa using h
    | cons x L ih =>
      intro M s hp h
      have e : M ++ x :: L = (M ++ [x]) ++ L := by simp
      rw [e] at hp ⊢
      refine ih (M ++ [x]) _ hp ?_
      have hpx : ∀ a ∈ M, bef a x = true := by
        have h1 := (List.pairwise_append.1 hp).1
        have h2 := (List.pairwise_append.1 h1).2.2
        exact fun a ha => h2 a ha x (by simp)
      unfold up1
      split
      · rename_i hlt
        refine ⟨rfl, .inl (by simp), fun l hl => ?_⟩
        dsimp only
        rcases hl with hl | rfl
        · rcases List.mem_append.1 hl with hl | hl
          · rcases h.top l (.inl hl) with h1 | ⟨h1, _⟩
            · left; omega
            · left; omega
          · simp at hl; subst hl
            right
            refine ⟨rfl, ?_⟩
            unfold bef; rw [if_pos rfl]; exact lexB_irrefl _
        · have := h0 s.1
          have := h.worth
          left; omega
      · rename_i hlt
        refine ⟨h.worth, ?_, fun l hl => ?_⟩
        · rcases h.here with h1 | h1
          · exact .inl (List.mem_append_left _ h1)
          · exact .inr h1
        · rcases hl with hl | rfl
          · rcases List.mem_append.1 hl with hl | hl
            · exact h.top l (.inl hl)
            · simp at hl; subst hl
              rcases Int.lt_or_eq_of_le (show W l ≤ s.2 by omega) with h1 | h1
              · exact .inl h1
              · refine .inr ⟨h1, ?_⟩
                rcases h.here with h2 | h2
                · exact bef_asymm (hpx _ h2)
                · rw [h2]; exact bef_nil _
          · exact h.top [] (.inr rfl)
  intro L hp
  have := key L [] ([], 0) (by simpa using hp) ⟨hn.symm, .inr rfl, fun l hl => by
    rcases hl with hl | rfl
    · cases hl
    · exact .inr ⟨hn, rfl⟩⟩
  simpa using this
theorem up2_best (_h0 : ∀ l, 0 ≤ W l) (hn : W [] = 0) (L : List (List Int)) : Best W (fun l => l ∈ L) (L.foldl (up2 W) ([], 0)) := by
  have key : ∀ (L M : List (List Int)) (s : St), Best W (fun l => l ∈ M) s → Best W (fun l => l ∈ M ++ L) (L.foldl (up2 W) s) := by
    intro L
    induction L with
    | nil => intro M s h; simpa using h
    | cons x L ih =>
      intro M s h
      have e : M ++ x :: L = (M ++ [x]) ++ L := by simp
      rw [e]
      refine ih (M ++ [x]) _ ?_
      have hxx : bef x x = false := by unfold bef; rw [if_pos rfl]; exact lexB_irrefl _
      unfold up2
      split
      · rename_i hlt
        refine ⟨rfl, .inl (by simp), fun l hl => ?_⟩
        dsimp only
        have hcase : l = x ∨ (l ∈ M ∨ l = []) := by
          rcases hl with hl | rfl
          · rcases List.mem_append.1 hl with hl | hl
            · exact .inr (.inl hl)
            · exact .inl (by simpa using hl)
          · exact .inr (.inr rfl)
        rcases hcase with rfl | hl
        · exact .inr ⟨rfl, hxx⟩
        · rcases h.top l hl with h1 | ⟨h1, h2⟩
          · left; rcases hlt with hlt | ⟨hlt, _⟩ <;> omega
          · rcases hlt with hlt | ⟨hlt, hb⟩
            · left; omega
            · right
              refine ⟨by omega, ?_⟩
              cases hc : bef l x with
              | false => rfl
              | true => rw [bef_trans hc hb] at h2; cases h2
      · rename_i hlt
        refine ⟨h.worth, ?_, fun l hl => ?_⟩
        · rcases h.here with h1 | h1
          · exact .inl (List.mem_append_left _ h1)
          · exact .inr h1
        · rcases hl with hl | rfl
          · rcases List.mem_append.1 hl with hl | hl
            · exact h.top l (.inl hl)
            · simp at hl; subst hl
              rcases Int.lt_trichotomy (W l) s.2 with h1 | h1 | h1
              · exact .inl h1
              · refine .inr ⟨h1, ?_⟩
                cases hc : bef l s.1 with
                | false => rfl
                | true => exact absurd (.inr ⟨h1, hc⟩) hlt
              · exact absurd (.inl h1) hlt
          · exact h.top [] (.inr rfl)
  have := key L [] ([], 0) ⟨hn.symm, .inr rfl, fun l hl => by
    rcases hl with hl | rfl
    · cases hl
    · exact .inr ⟨hn, rfl⟩⟩
  simpa using this
end

/-! ### The order of the program -/
def fst (l : List Int) : Int := match l.getLast? with
  | none => 0
  | some x => x + 1
theorem fst_snoc (l : List Int) (d : Int) : fst (l ++ [d]) = d + 1 := by simp [fst]
/-- The days from lo on to hi. -/
def days (lo hi : Int) : List Int := (List.range (hi + 1 - lo).toNat).map (fun k : Nat => lo + (k : Int))
theorem mem_days {lo hi d : Int} : d ∈ days lo hi ↔ lo ≤ d ∧ d ≤ hi := by
  unfold days
  rw [List.mem_map]
  constructor
  · rintro ⟨k, hk, rfl⟩
    rw [List.mem_range] at hk
    omega
  · intro h
    exact ⟨(d - lo).toNat, by rw [List.mem_range]; omega, by omega⟩
theorem days_pairwise (lo hi : Int) : (days lo hi).Pairwise (fun a b => a < b) := by
  unfold days
  rw [List.pairwise_map]
  exact List.pairwise_lt_range.imp (fun h => by omega)
def tryE (n : Nat) : Nat → List Int → List (List Int)
  | 0, l => [l]
  | m + 1, l => (days (fst l) ((n : Int) - ((m : Int) + 1))).flatMap (fun d => tryE n m (l ++ [d]))
theorem Inc.room {n : Nat} : ∀ {t : List Int} {lo : Int}, Inc n lo t → t ≠ [] → lo + t.length ≤ n := by
  intro t
  induction t with
  | nil => intro lo _ h; exact absurd rfl h
  | cons x t ih =>
    intro lo h _
    obtain ⟨h1, h2, h3⟩ := h
    cases t with
    | nil => simp; omega
    | cons y t =>
      have := ih h3 (by simp)
      simp only [List.length_cons] at this ⊢
      omega
theorem mem_tryE {n : Nat} : ∀ (m : Nat) (l x : List Int), x ∈ tryE n m l ↔ ∃ t, x = l ++ t ∧ t.length = m ∧ Inc n (fst l) t := by
  intro m
  induction m with
  | zero =>
    intro l x
    simp only [tryE, List.mem_singleton]
    constructor
    · rintro rfl; exact ⟨[], by simp, rfl, trivial⟩
    · rintro ⟨t, rfl, ht, _⟩
      rw [List.eq_nil_of_length_eq_zero ht]; simp
  | succ m ih =>
    intro l x
    simp only [tryE, List.mem_flatMap, ih, mem_days, fst_snoc]
    constructor
    · rintro ⟨d, ⟨h1, h2⟩, t, rfl, ht, hi⟩
      exact ⟨d :: t, by simp, by simp [ht], h1, by omega, hi⟩
    · rintro ⟨t, rfl, ht, hi⟩
      cases t with
      | nil => simp at ht
      | cons d t =>
        obtain ⟨h1, h2, h3⟩ := hi
        simp only [List.length_cons] at ht
        refine ⟨d, ⟨h1, ?_⟩, t, by simp, by omega, h3⟩
        cases t with
        | nil => simp at ht; omega
        | cons y t =>
          have := Inc.room h3 (by simp)
          simp only [List.length_cons] at this ht
          omega
theorem lexB_append (l a b : List Int) : lexB (l ++ a) (l ++ b) = lexB a b := by
  induction l with
  | nil => rfl
  | cons x l ih => simp [lexB, ih]
theorem tryE_pairwise {n : Nat} : ∀ (m : Nat) (l : List Int), (tryE n m l).Pairwise (fun a b => bef a b = true) := by
  intro m
  induction m with
  | zero => intro l; simp [tryE]
  | succ m ih =>
    intro l
    simp only [tryE]
    rw [List.pairwise_flatMap]
    refine ⟨fun d _ => ih _, (days_pairwise _ _).imp fun {d d'} hd x hx y hy => ?_⟩
    obtain ⟨t, rfl, ht, _⟩ := (mem_tryE m _ _).1 hx
    obtain ⟨t', rfl, ht', _⟩ := (mem_tryE m _ _).1 hy
    unfold bef
    rw [if_pos (by simp [ht, ht'])]
    rw [List.append_assoc, List.append_assoc, lexB_append]
    simp only [List.cons_append, List.nil_append, lexB]
    rw [if_neg (by omega)]
    simp; exact hd
/-- All that the program looks at, in its order. -/
def allE (n most : Nat) : List (List Int) := (List.range (min most n + 1)).flatMap (fun m => tryE n m [])
theorem mem_allE {n most : Nat} (x : List Int) : x ∈ allE n most ↔ Inc n 0 x ∧ x.length ≤ most := by
  simp only [allE, List.mem_flatMap, mem_tryE, List.mem_range]
  have hf : fst [] = 0 := rfl
  constructor
  · rintro ⟨m, hm, t, rfl, ht, hi⟩
    rw [hf] at hi
    exact ⟨hi, by omega⟩
  · rintro ⟨hi, hl⟩
    refine ⟨x.length, ?_, x, by simp, rfl, by rw [hf]; exact hi⟩
    by_cases hx : x = []
    · subst hx; simp
    · have := Inc.room hi hx
      omega
theorem allE_pairwise (n most : Nat) : (allE n most).Pairwise (fun a b => bef a b = true) := by
  unfold allE
  rw [List.pairwise_flatMap]
  refine ⟨fun m _ => tryE_pairwise m [], List.pairwise_lt_range.imp fun {m m'} hm x hx y hy => ?_⟩
  obtain ⟨t, rfl, ht, _⟩ := (mem_tryE m _ _).1 hx
  obtain ⟨t', rfl, ht', _⟩ := (mem_tryE m' _ _).1 hy
  unfold bef
  rw [if_neg (by omega)]
  exact decide_eq_true (by omega)

/-! ### The order of the reference -/
/-- The cuts that a number stands for. -/
def bitsR (n s : Nat) : List Int := ((List.range n).filter (fun i => decide (s / 2 ^ i % 2 = 1))).map (fun i : Nat => (i : Int))
theorem bitsR_succ (n s : Nat) : bitsR (n + 1) s = bitsR n s ++ (if s / 2 ^ n % 2 = 1 then [(n : Int)] else []) := by
  unfold bitsR
  rw [List.range_succ, List.filter_append, List.map_append]
  congr 1
  by_cases h : s / 2 ^ n % 2 = 1
  · simp [h]
  · simp [h]
theorem bitsR_high {n s : Nat} : bitsR n (s + 2 ^ n) = bitsR n s := by
  unfold bitsR
  congr 1
  apply List.filter_congr
  intro i hi
  rw [List.mem_range] at hi
  congr 2
  have : 2 ^ n = 2 ^ i * (2 * 2 ^ (n - i - 1)) := by
    rw [← Nat.pow_succ', ← Nat.pow_add]; congr 1; omega
  rw [this, Nat.add_mul_div_left _ _ (Nat.two_pow_pos i)]
  omega
theorem Inc.mono {n : Nat} : ∀ {l : List Int} {lo : Int}, Inc n lo l → Inc (n + 1) lo l := by
  intro l
  induction l with
  | nil => intro lo _; trivial
  | cons x l ih => intro lo h; exact ⟨h.1, by have := h.2.1; omega, ih h.2.2⟩
theorem Inc.snoc {n : Nat} : ∀ {l : List Int} {lo : Int}, lo ≤ n → Inc n lo l → Inc (n + 1) lo (l ++ [(n : Int)]) := by
  intro l
  induction l with
  | nil => intro lo h _; exact ⟨h, by omega, trivial⟩
  | cons x l ih => intro lo h hi; exact ⟨hi.1, by have := hi.2.1; omega, ih (by have := hi.2.1; omega) hi.2.2⟩
theorem Inc.last {n : Nat} : ∀ {l : List Int} {lo : Int}, Inc (n + 1) lo l → Inc n lo l ∨ ∃ l', l = l' ++ [(n : Int)] ∧ Inc n lo l' := by
  intro l
  induction l with
  | nil => intro lo _; exact .inl trivial
  | cons x l ih =>
    intro lo h
    obtain ⟨h1, h2, h3⟩ := h
    rcases ih h3 with h4 | ⟨l', rfl, h4⟩
    · by_cases hx : x ≤ (n : Int) - 1
      · exact .inl ⟨h1, hx, h4⟩
      · have hxn : x = n := by omega
        subst hxn
        cases l with
        | nil => exact .inr ⟨[], rfl, trivial⟩
        | cons y l => have := h4.1; have := h4.2.1; omega
    · refine .inr ⟨x :: l', rfl, h1, ?_, h4⟩
      cases l' with
      | nil => have := h3.1; omega
      | cons y l' => have := h4.1; have := h4.2.1; omega
theorem bitsR_inc : ∀ n s : Nat, Inc n 0 (bitsR n s) := by
  intro n
  induction n with
  | zero => intro s; trivial
  | succ n ih =>
    intro s
    rw [bitsR_succ]
    split
    · exact Inc.snoc (by omega) (ih s)
    · rw [List.append_nil]; exact Inc.mono (ih s)
theorem bitsR_surj : ∀ (n : Nat) (l : List Int), Inc n 0 l → ∃ s, s < 2 ^ n ∧ bitsR n s = l := by
  intro n
  induction n with
  | zero =>
    intro l h
    cases l with
    | nil => exact ⟨0, by simp, rfl⟩
    | cons x l => have := h.1; have := h.2.1; omega
  | succ n ih =>
    intro l h
    rcases Inc.last h with h1 | ⟨l', rfl, h1⟩
    · obtain ⟨s, hs, e⟩ := ih l h1
      refine ⟨s, by rw [Nat.pow_succ]; omega, ?_⟩
      rw [bitsR_succ, Nat.div_eq_of_lt hs, e]; simp
    · obtain ⟨s, hs, e⟩ := ih l' h1
      refine ⟨s + 2 ^ n, by rw [Nat.pow_succ]; omega, ?_⟩
      rw [bitsR_succ, bitsR_high, e]
      have : (s + 2 ^ n) / 2 ^ n % 2 = 1 := by
        rw [Nat.add_div_right _ (Nat.two_pow_pos n), Nat.div_eq_of_lt hs]
      rw [if_pos this]
theorem bitsR_zero (n : Nat) : bitsR n 0 = [] := by
  unfold bitsR; simp
/-- All that the reference looks at, in its order. -/
def refE (n most : Nat) : List (List Int) := (((List.range (2 ^ n - 1)).map (fun s => bitsR n (s + 1))).filter (fun l => decide (l.length ≤ most)))
theorem mem_refE {n most : Nat} (x : List Int) : (x ∈ refE n most ∨ x = []) ↔ (x ∈ allE n most ∨ x = []) := by
  rw [mem_allE]
  simp only [refE, List.mem_filter, List.mem_map, List.mem_range, decide_eq_true_eq]
  constructor
  · rintro (⟨⟨s, hs, rfl⟩, hl⟩ | rfl)
    · exact .inl ⟨bitsR_inc _ _, hl⟩
    · exact .inr rfl
  · rintro (⟨hi, hl⟩ | rfl)
    · by_cases hx : x = []
      · exact .inr hx
      · obtain ⟨s, hs, rfl⟩ := bitsR_surj n x hi
        refine .inl ⟨⟨s - 1, ?_, ?_⟩, hl⟩
        · have : s ≠ 0 := by rintro rfl; exact hx (bitsR_zero n)
          omega
        · have : s ≠ 0 := by rintro rfl; exact hx (bitsR_zero n)
          rw [show s - 1 + 1 = s by omega]
    · exact .inr rfl
/-- Both find the same. -/
theorem best_eq {W : List Int → Int} (h0 : ∀ l, 0 ≤ W l) (hn : W [] = 0) (n most : Nat) : (allE n most).foldl (up1 W) ([], 0) = (refE n most).foldl (up2 W) ([], 0) := by
  have h1 := up1_best h0 hn (allE n most) (allE_pairwise n most)
  have h2 := up2_best h0 hn (refE n most)
  refine Best.unique (p := fun l => l ∈ allE n most) h1 ⟨h2.worth, ?_, fun l hl => h2.top l ((mem_refE l).2 hl)⟩
  exact (mem_refE _).1 h2.here
end Go.Proofs.Ytccgplomnjpniaa.Pick
/- Walks: slices.Clone, slices.Clip, before. -/
namespace Go.Proofs.Ytccgplomnjpniaa
open Go Go.Eng Go.RowKit Go.Proofs
set_option maxHeartbeats 1000000
set_option maxRecDepth 10000
attribute [local irreducible] TL TC TQ

theorem c65 (l : List Int) (ao : Option Addr) (c : Nat) (hl : l.length ≤ 1000000) (w : World) (ha : Sl w 1 encI ao l) :
    Calls Try.prog 65 #[.slice ao l.length c] w (RetP w.heap.size w (fun q : Option Addr × Nat × Hp => .slice q.1 l.length q.2.1) (fun q => q.2.2) (fun q => Row 3 1 encI q.1 q.2.1 q.2.2 l)) := by
  cases ao with
  | none =>
    have hnil : l = [] := by
      cases l with
      | nil => rfl
      | cons x l => obtain ⟨b, o, h⟩ := ha.some_ (by simp); cases h
    subst hnil
    refine enter (args := [.slice none ([] : List Int).length c]) Try.func65 rfl Try.ntmps65 rfl (SH.refl _) ?_
    repeat' (first | refine rn ?_ | (apply TL_box; exact rfl; exact rfl; exact rfl; intro _ _) | (apply TL_alloc; exact rfl; intro _ _) | (apply TL_buildSlice; exact rfl; exact rfl; exact rfl; exact rfl; exact rfl; intro _ _))
    refine TL_eql_slnil (b := true) rfl rfl rfl ?_
    repeat' (first | refine rn ?_ | (apply TL_box; exact rfl; exact rfl; exact rfl; intro _ _) | (apply TL_alloc; exact rfl; intro _ _) | (apply TL_buildSlice; exact rfl; exact rfl; exact rfl; exact rfl; exact rfl; intro _ _))
    exact TQ_ret1 Try.results65 (RV.tmp rfl) (fun w' hs => ⟨(none, 0, []), Row.nil _ _ _, rfl, hs⟩)
  | some a =>
    refine enter (args := [.slice (some a) l.length c]) Try.func65 rfl Try.ntmps65 rfl (SH.refl _) ?_
    repeat' (first | refine rn ?_ | (apply TL_box; exact rfl; exact rfl; exact rfl; intro _ _) | (apply TL_alloc; exact rfl; intro _ _) | (apply TL_buildSlice; exact rfl; exact rfl; exact rfl; exact rfl; exact rfl; intro _ _))
    refine TL_eql_slnil (b := false) rfl rfl rfl ?_
    repeat' (first | refine rn ?_ | (apply TL_box; exact rfl; exact rfl; exact rfl; intro _ _) | (apply TL_alloc; exact rfl; intro _ _) | (apply TL_buildSlice; exact rfl; exact rfl; exact rfl; exact rfl; exact rfl; intro _ _))
    rename_i b5 _
    refine TL_append (l := ([] : List Int)) (l2 := l) (enc := encI) (T := 3) (ob := [(b5, .cells [] 3)]) (G := _) rfl (by rfl) rfl rfl rfl rfl rfl ⟨fun x hx => (by cases hx), .inr ⟨b5, [], rfl, rfl, by simp, by simp [maxLen], by simp⟩⟩ (List.Perm.refl _) (fun w h => h.sl ha) (fun u hu => rfl) (by simp only [List.length_nil]; omega) (by simp only [List.length_nil, maxLen]; omega) (fun so2 sc2 ob2 hrow2 => ?_)
    rw [List.nil_append] at hrow2 ⊢
    repeat' (first | refine rn ?_ | (apply TL_box; exact rfl; exact rfl; exact rfl; intro _ _) | (apply TL_alloc; exact rfl; intro _ _) | (apply TL_buildSlice; exact rfl; exact rfl; exact rfl; exact rfl; exact rfl; intro _ _))
    exact TQ_ret1 Try.results65 (RV.tmp rfl) (fun w' hs => ⟨(so2, sc2, ob2), hrow2, rfl, hs.sub (List.sublist_append_left _ _)⟩)

def clipA (ao : Option Addr) (n : Nat) : Option Addr := if n = 0 then ao else ao.map (·.add 0)
theorem Sl.clip {w : World} {ao : Option Addr} {l : List Int} (h : Sl w 1 encI ao l) : Sl w 1 encI (clipA ao l.length) l := by
  unfold clipA
  split
  · exact h
  · rename_i hn
    obtain ⟨b, o, rfl⟩ := h.some_ (fun e => hn (by rw [e]; rfl))
    have : (some (⟨b, o, none⟩ : Addr)).map (·.add 0) = some ⟨b, o, none⟩ := by simp [add_plain']
    rw [this]; exact h
theorem c66 (l : List Int) (ao : Option Addr) (c : Nat) (hl : l.length ≤ 1000000) (hc : l.length ≤ c) (w : World) : Calls Try.prog 66 #[.slice ao l.length c] w (RetV w (.slice (clipA ao l.length) l.length l.length)) := by
  refine enter (args := [.slice ao l.length c]) Try.func66 rfl Try.ntmps66 rfl (SH.refl _) ?_
  repeat' (first | refine rn ?_ | (apply TL_box; exact rfl; exact rfl; exact rfl; intro _ _) | (apply TL_alloc; exact rfl; intro _ _) | (apply TL_buildSlice; exact rfl; exact rfl; exact rfl; exact rfl; exact rfl; intro _ _))
  refine TL_slice3 l.length l.length rfl rfl rfl rfl rfl rfl (Nat.le_refl _) hc ?_
  repeat' (first | refine rn ?_ | (apply TL_box; exact rfl; exact rfl; exact rfl; intro _ _) | (apply TL_alloc; exact rfl; intro _ _) | (apply TL_buildSlice; exact rfl; exact rfl; exact rfl; exact rfl; exact rfl; intro _ _))
  exact TQ_ret1 Try.results66 (RV.tmp rfl) (fun w' hs => ⟨rfl, hs.below⟩)

theorem lexB_drop {la lb : List Int} {k : Nat} {x y : Int} (hx : la[k]? = some x) (hy : lb[k]? = some y) : Pick.lexB (la.drop k) (lb.drop k) = if x = y then Pick.lexB (la.drop (k + 1)) (lb.drop (k + 1)) else decide (x < y) := by
  have e1 : la.drop k = x :: la.drop (k + 1) := by
    obtain ⟨h, rfl⟩ := List.getElem?_eq_some_iff.1 hx
    exact List.drop_eq_getElem_cons h
  have e2 : lb.drop k = y :: lb.drop (k + 1) := by
    obtain ⟨h, rfl⟩ := List.getElem?_eq_some_iff.1 hy
    exact List.drop_eq_getElem_cons h
  rw [e1, e2]; rfl
theorem c67 (la lb : List Int) (ao bo : Option Addr) (ca cb : Nat) (hla : la.length ≤ 1000000) (hlb : lb.length ≤ 1000000) (w : World) (ha : Sl w 1 encI ao la) (hb : Sl w 1 encI bo lb) :
    Calls Try.prog 67 #[.slice ao la.length ca, .slice bo lb.length cb] w (RetV w (.bool (Pick.bef la lb))) := by
  refine enter (args := [.slice ao la.length ca, .slice bo lb.length cb]) Try.func67 rfl Try.ntmps67 rfl (SH.refl _) ?_
  repeat' (first | refine rn ?_ | (apply TL_box; exact rfl; exact rfl; exact rfl; intro _ _) | (apply TL_alloc; exact rfl; intro _ _) | (apply TL_buildSlice; exact rfl; exact rfl; exact rfl; exact rfl; exact rfl; intro _ _))
  refine TC_cond_dec rfl (fun h1 => ?_) (fun h1 => ?_)
  · repeat' (first | refine rn ?_ | (apply TL_box; exact rfl; exact rfl; exact rfl; intro _ _) | (apply TL_alloc; exact rfl; intro _ _) | (apply TL_buildSlice; exact rfl; exact rfl; exact rfl; exact rfl; exact rfl; intro _ _))
    have e : Pick.bef la lb = decide ((la.length : Int) < lb.length) := by
      unfold Pick.bef; rw [if_neg (by omega), decide_eq_decide]; omega
    rw [e]
    exact TQ_ret1 Try.results67 (RV.tmp rfl) (fun w' hs => ⟨rfl, hs.below⟩)
  have hlen : la.length = lb.length := by omega
  have e : Pick.bef la lb = Pick.lexB la lb := by unfold Pick.bef; rw [if_pos hlen]
  rw [e]
  repeat' (first | refine rn ?_ | (apply TL_box; exact rfl; exact rfl; exact rfl; intro _ _) | (apply TL_alloc; exact rfl; intro _ _) | (apply TL_buildSlice; exact rfl; exact rfl; exact rfl; exact rfl; exact rfl; intro _ _))
  refine TC_loop (σ := Nat) (fun k => k ≤ la.length ∧ Pick.lexB la lb = Pick.lexB (la.drop k) (lb.drop k)) (fun k => [(0, .slice ao la.length ca), (1, .slice bo lb.length cb), (5, .int .i64 k)]) (fun k => []) (fun k => la.length - k) 0 ⟨Nat.zero_le _, rfl⟩ sb (fun w h => h) (fun k hk => ?_)
  obtain ⟨hk, hlex⟩ := hk
  repeat' (first | refine rn ?_ | (apply TL_box; exact rfl; exact rfl; exact rfl; intro _ _) | (apply TL_alloc; exact rfl; intro _ _) | (apply TL_buildSlice; exact rfl; exact rfl; exact rfl; exact rfl; exact rfl; intro _ _))
  refine TC_cond_dec rfl (fun h2 => ?_) (fun h2 => ?_)
  · have hlt : k < la.length := by omega
    obtain ⟨x, hx⟩ : ∃ x, la[k]? = some x := ⟨_, List.getElem?_eq_getElem hlt⟩
    obtain ⟨y, hy⟩ : ∃ y, lb[k]? = some y := ⟨_, List.getElem?_eq_getElem (by omega)⟩
    rw [lexB_drop hx hy] at hlex
    repeat' (first | refine rn ?_ | (apply TL_box; exact rfl; exact rfl; exact rfl; intro _ _) | (apply TL_alloc; exact rfl; intro _ _) | (apply TL_buildSlice; exact rfl; exact rfl; exact rfl; exact rfl; exact rfl; intro _ _))
    apply TC_draw 9; kernel_rfl; exact Try.mixed
    · iterate 2 (refine' pv ?_; rotate_left)
      (refine' PG.val rfl rfl (by intro _X; refine TL_index k rfl rfl rfl (fun w h => h.sl ha) rfl hlt (Nat.le_refl _) ?_; exact qe) ?_; rotate_left)
      (refine' PG.val rfl rfl (by intro _X; refine TL_load_el1 (u := x) rfl rfl (fun w h => h.sl ha) hx rfl ?_; exact qe) ?_; rotate_left)
      iterate 2 (refine' pv ?_; rotate_left)
      (refine' PG.val rfl rfl (by intro _X; refine TL_index k rfl rfl rfl (fun w h => h.sl hb) rfl (by omega) (Nat.le_refl _) ?_; exact qe) ?_; rotate_left)
      (refine' PG.val rfl rfl (by intro _X; refine TL_load_el1 (u := y) rfl rfl (fun w h => h.sl hb) hy rfl ?_; exact qe) ?_; rotate_left)
      (refine' pv ?_; rotate_left)
      exact PG.nil
    change TL _ _ _ _ _ _ _ _ _ _ _
    repeat' (first | refine rn ?_ | (apply TL_box; exact rfl; exact rfl; exact rfl; intro _ _) | (apply TL_alloc; exact rfl; intro _ _) | (apply TL_buildSlice; exact rfl; exact rfl; exact rfl; exact rfl; exact rfl; intro _ _))
    refine TC_cond_dec rfl (fun h3 => ?_) (fun h3 => ?_)
    · rw [if_neg h3] at hlex
      rw [hlex]
      repeat' (first | refine rn ?_ | (apply TL_box; exact rfl; exact rfl; exact rfl; intro _ _) | (apply TL_alloc; exact rfl; intro _ _) | (apply TL_buildSlice; exact rfl; exact rfl; exact rfl; exact rfl; exact rfl; intro _ _))
      apply TC_draw 10; kernel_rfl; exact Try.mixed
      · iterate 2 (refine' pv ?_; rotate_left)
        (refine' PG.val rfl rfl (by intro _X; refine TL_index k rfl rfl rfl (fun w h => h.sl ha) rfl hlt (Nat.le_refl _) ?_; exact qe) ?_; rotate_left)
        (refine' PG.val rfl rfl (by intro _X; refine TL_load_el1 (u := x) rfl rfl (fun w h => h.sl ha) hx rfl ?_; exact qe) ?_; rotate_left)
        iterate 2 (refine' pv ?_; rotate_left)
        (refine' PG.val rfl rfl (by intro _X; refine TL_index k rfl rfl rfl (fun w h => h.sl hb) rfl (by omega) (Nat.le_refl _) ?_; exact qe) ?_; rotate_left)
        (refine' PG.val rfl rfl (by intro _X; refine TL_load_el1 (u := y) rfl rfl (fun w h => h.sl hb) hy rfl ?_; exact qe) ?_; rotate_left)
        iterate 2 (refine' pv ?_; rotate_left)
        exact PG.nil
      change TL _ _ _ _ _ _ _ _ _ _ _
      repeat' (first | refine rn ?_ | (apply TL_box; exact rfl; exact rfl; exact rfl; intro _ _) | (apply TL_alloc; exact rfl; intro _ _) | (apply TL_buildSlice; exact rfl; exact rfl; exact rfl; exact rfl; exact rfl; intro _ _))
      exact TQ_ret1 Try.results67 (RV.tmp rfl) (fun w' hs => ⟨rfl, hs.below⟩)
    · rw [if_pos (Classical.not_not.1 h3)] at hlex
      repeat' (first | refine rn ?_ | (apply TL_box; exact rfl; exact rfl; exact rfl; intro _ _) | (apply TL_alloc; exact rfl; intro _ _) | (apply TL_buildSlice; exact rfl; exact rfl; exact rfl; exact rfl; exact rfl; intro _ _))
      exact TQ_round (k + 1) ⟨hlt, hlex⟩ (by omega) sb (fun w h => h)
  · have hkl : k = la.length := by omega
    subst hkl
    rw [hlex, List.drop_length]
    repeat' (first | refine rn ?_ | (apply TL_box; exact rfl; exact rfl; exact rfl; intro _ _) | (apply TL_alloc; exact rfl; intro _ _) | (apply TL_buildSlice; exact rfl; exact rfl; exact rfl; exact rfl; exact rfl; intro _ _))
    exact TQ_ret1 Try.results67 (RV.tmp rfl) (fun w' hs => ⟨rfl, hs.below⟩)
end Go.Proofs.Ytccgplomnjpniaa
