/- Plain law: bounds between points, closed over the ways between them. -/
import Derived.Test.YtoolblbdmmiahaaDoorL0
namespace Go.Proofs.YtoolblbdmmiahaaDoor
open Go Go.Eng Go.RowKit Go.Proofs

/-- By how much point k is above point i at most. -/
abbrev Tb := Nat → Nat → Int
def upd (T : Tb) (i k : Nat) (v : Int) : Tb := fun a b => if a = i ∧ b = k then v else T a b
def lowT (T : Tb) (i k : Nat) (v : Int) : Tb := upd T i k (min (T i k) v)
/-- The pass over point j: the first m columns of row i; the first r rows. -/
def fwCol (j i : Nat) : Nat → Tb → Tb
  | 0, T => T
  | m + 1, T => lowT (fwCol j i m T) i m (fwCol j i m T i j + fwCol j i m T j m)
def fwRow (j w : Nat) : Nat → Tb → Tb
  | 0, T => T
  | r + 1, T => fwCol j r w (fwRow j w r T)
/-- None below zero among the first m of the way round. -/
def diagOk (T : Tb) (m : Nat) : Bool := (List.range m).all (fun i => decide (T i i = 0))
/-- The passes over the first r points, with the check behind each. -/
def fwAll (w : Nat) : Nat → Tb → Tb × Bool
  | 0, T => (T, true)
  | r + 1, T => if (fwAll w r T).2 = true then (fwRow r w w (fwAll w r T).1, diagOk (fwRow r w w (fwAll w r T).1) w) else fwAll w r T
def base (n : Nat) : Tb := fun i k => if i = k then 0 else if (i = n ∧ k < n) ∨ (k = n ∧ i < n) then 10000000 else 20000000
/-- The readings: between which points, and the span. -/
def rds (S : Sv) : List (Nat × Nat × Sp) := S.shots.map (fun x => (x.fr.toNat, x.to.toNat, x.rise)) ++ S.marks.map (fun x => (S.pts.toNat, x.pt.toNat, x.ht))
def addRd (w : Int) (T : Tb) (x : Nat × Nat × Sp) : Tb := lowT (lowT T x.1 x.2.1 (x.2.2.2 + w)) x.2.1 x.1 (w - x.2.2.1)
/-- The bounds of the first m readings that count. -/
def rdT (S : Sv) (out : Nat → Bool) (w : Int) : Nat → Tb
  | 0 => base S.pts.toNat
  | m + 1 => match (rds S)[m]? with
    | some x => if out m = true then rdT S out w m else addRd w (rdT S out w m) x
    | none => rdT S out w m
def solveR (S : Sv) (out : Nat → Bool) (w : Int) : Tb × Bool := fwAll (S.pts.toNat + 1) (S.pts.toNat + 1) (rdT S out w (rds S).length)

/-! The pass, at once. -/
theorem upd_same (T : Tb) (i k : Nat) (v : Int) : upd T i k v i k = v := if_pos ⟨rfl, rfl⟩
theorem upd_ne (T : Tb) {i k a b : Nat} (v : Int) (h : ¬ (a = i ∧ b = k)) : upd T i k v a b = T a b := if_neg h
/-- Entry a b turned at once. -/
def par (T : Tb) (j : Nat) : Tb := fun a b => min (T a b) (T a j + T j b)
theorem fwCol_spec {T : Tb} {j i : Nat} (hj : T j j = 0) : ∀ m, ∀ a b, fwCol j i m T a b = if a = i ∧ b < m then par T j a b else T a b := by
  intro m
  induction m with
  | zero => intro a b; simp [fwCol]
  | succ m ih =>
    intro a b
    have e1 : fwCol j i m T i j = T i j := by
      rw [ih]; split
      · simp only [par, hj]; omega
      · rfl
    have e2 : fwCol j i m T j m = T j m := by rw [ih, if_neg (by omega)]
    have e3 : fwCol j i m T i m = T i m := by rw [ih, if_neg (by omega)]
    simp only [fwCol, lowT]
    rw [e1, e2, e3]
    by_cases h : a = i ∧ b = m
    · obtain ⟨rfl, rfl⟩ := h
      rw [upd_same, if_pos ⟨rfl, by omega⟩]; rfl
    · rw [upd_ne _ _ h, ih]
      by_cases h2 : a = i ∧ b < m
      · rw [if_pos h2, if_pos ⟨h2.1, by omega⟩]
      · rw [if_neg h2, if_neg (by omega)]
theorem fwRow_spec {T : Tb} {j w : Nat} (hj : T j j = 0) : ∀ r, ∀ a b, fwRow j w r T a b = if a < r ∧ b < w then par T j a b else T a b := by
  intro r
  induction r with
  | zero => intro a b; simp [fwRow]
  | succ r ih =>
    intro a b
    have hpj : ∀ b, par T j j b = T j b := fun b => by simp only [par, hj]; omega
    have hTj : ∀ b, fwRow j w r T j b = T j b := fun b => by
      rw [ih]; split
      · exact hpj b
      · rfl
    have e := fwCol_spec (T := fwRow j w r T) (j := j) (i := r) (by rw [hTj]; exact hj) w a b
    rw [fwRow, e]
    by_cases h : a = r ∧ b < w
    · obtain ⟨rfl, h2⟩ := h
      rw [if_pos ⟨rfl, h2⟩, if_pos ⟨by omega, h2⟩]
      simp only [par]
      rw [hTj, ih, if_neg (by omega), ih, if_neg (by omega)]
    · rw [if_neg h, ih]
      by_cases h2 : a < r ∧ b < w
      · rw [if_pos h2, if_pos ⟨by omega, h2.2⟩]
      · rw [if_neg h2, if_neg (by omega)]
/-- Heights that fit all bounds among the first w. -/
def Sat (w : Nat) (T : Tb) (h : Nat → Int) : Prop := ∀ a b, a < w → b < w → h b - h a ≤ T a b
/-- Closed over the ways by the first j. -/
structure Clo (w j : Nat) (T : Tb) : Prop where
  diag : ∀ a, a < w → T a a = 0
  tri : ∀ a b m, a < w → b < w → m < j → m < w → T a b ≤ T a m + T m b
theorem diagOk_iff {T : Tb} {m : Nat} : diagOk T m = true ↔ ∀ a, a < m → T a a = 0 := by
  simp [diagOk, List.all_eq_true]
theorem pass_clo {T : Tb} {w j : Nat} (hw : j < w) (h : Clo w j T) (hd : diagOk (fwRow j w w T) w = true) : Clo w (j + 1) (fwRow j w w T) := by
  have hj := h.diag j hw
  have e : ∀ a b, a < w → b < w → fwRow j w w T a b = min (T a b) (T a j + T j b) := fun a b ha hb => by
    rw [fwRow_spec hj, if_pos ⟨ha, hb⟩]; rfl
  refine ⟨fun a ha => diagOk_iff.1 hd a ha, fun a b m ha hb hm hmw => ?_⟩
  rw [e a b ha hb, e a m ha hmw, e m b hmw hb]
  by_cases hmj : m < j
  · have t1 := h.tri a b m ha hb hmj hmw
    have t2 := h.tri j b m hw hb hmj hmw
    have t3 := h.tri a j m ha hw hmj hmw
    have t4 := h.tri j j m hw hw hmj hmw
    omega
  · have : m = j := by omega
    subst this
    omega
theorem pass_sat {T : Tb} {w j : Nat} (hw : j < w) (hj : T j j = 0) (h : Nat → Int) : Sat w (fwRow j w w T) h ↔ Sat w T h := by
  constructor
  · intro hs a b ha hb
    have := hs a b ha hb
    rw [fwRow_spec hj, if_pos ⟨ha, hb⟩] at this
    simp only [par] at this; omega
  · intro hs a b ha hb
    rw [fwRow_spec hj, if_pos ⟨ha, hb⟩]
    have h1 := hs a b ha hb
    have h2 := hs a j ha hw
    have h3 := hs j b hw hb
    simp only [par]; omega
theorem pass_diag {T : Tb} {w j : Nat} (hw : j < w) (h : ∀ a, a < w → T a a = 0) : ∀ a, a < w → fwRow j w w T a a ≤ 0 := by
  intro a ha
  rw [fwRow_spec (h j hw), if_pos ⟨ha, ha⟩]
  have := h a ha
  simp only [par]; omega
/-- All passes: closed, and the same heights fit; or none fit. -/
theorem fwAll_spec {T : Tb} {w : Nat} (h0 : ∀ a, a < w → T a a = 0) : ∀ r, r ≤ w → ((fwAll w r T).2 = true → Clo w r (fwAll w r T).1 ∧ ∀ h, Sat w (fwAll w r T).1 h ↔ Sat w T h) ∧ ((fwAll w r T).2 = false → ∀ h, ¬ Sat w T h) := by
  intro r
  induction r with
  | zero => intro _; exact ⟨fun _ => ⟨⟨h0, fun a b m _ _ hm => by omega⟩, fun h => Iff.rfl⟩, fun h => by cases h⟩
  | succ r ih =>
    intro hr
    obtain ⟨i1, i2⟩ := ih (by omega)
    rw [fwAll]
    by_cases hok : (fwAll w r T).2 = true
    · rw [if_pos hok]
      obtain ⟨c, s⟩ := i1 hok
      refine ⟨fun hd => ⟨pass_clo (by omega) c hd, fun h => (pass_sat (by omega) (c.diag r (by omega)) h).trans (s h)⟩, fun hd h hs => ?_⟩
      dsimp only at hd
      have hs2 := (pass_sat (by omega) (c.diag r (by omega)) h).2 ((s h).2 hs)
      have : ∀ a, a < w → fwRow r w w (fwAll w r T).1 a a = 0 := fun a ha => by
        have h1 := hs2 a a ha ha
        have h2 := pass_diag (j := r) (by omega) c.diag a ha
        omega
      rw [diagOk_iff.2 this] at hd; cases hd
    · rw [if_neg hok]
      exact ⟨fun h => absurd h hok, i2⟩
/-- A closed table is attained from each point. -/
theorem clo_sat {T : Tb} {w : Nat} (h : Clo w w T) {a : Nat} (ha : a < w) : Sat w T (fun b => T a b) := fun x y hx hy => by
  have := h.tri a y x ha hy hx hx
  dsimp only; omega
theorem clo_sat' {T : Tb} {w : Nat} (h : Clo w w T) {a : Nat} (ha : a < w) : Sat w T (fun b => -T b a) := fun x y hx hy => by
  have := h.tri x a y hx ha hy hy
  dsimp only; omega
end Go.Proofs.YtoolblbdmmiahaaDoor
