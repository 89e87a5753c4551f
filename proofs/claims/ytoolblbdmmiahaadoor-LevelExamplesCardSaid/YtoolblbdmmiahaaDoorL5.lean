/- Plain law: the table as it is filled and closed. -/
import Derived.Test.YtoolblbdmmiahaaDoorL4
namespace Go.Proofs.YtoolblbdmmiahaaDoor
open Go Go.Eng Go.RowKit Go.Proofs

def stepB (T : Tb) (b : Bd) : Tb := lowT T b.1.toNat b.2.1.toNat b.2.2
def foldB (L : List Bd) (T : Tb) : Tb := L.foldl stepB T
def init0 : Tb := fun a b => if a = b then 0 else 20000000
theorem foldB_app (L M : List Bd) (T : Tb) : foldB (L ++ M) T = foldB M (foldB L T) := List.foldl_append
theorem fold_P (n : Nat) : ∀ i, i ≤ n → foldB (acc (fP (n : Int)) i) init0 = fun a b => if a = b then 0 else if (a = n ∧ b < i) ∨ (b = n ∧ a < i) then 10000000 else 20000000 := by
  intro i
  induction i with
  | zero => intro _; funext a b; simp [acc, foldB, init0]
  | succ i ih =>
    intro hi
    rw [acc, foldB_app, ih (by omega)]
    funext a b
    simp only [fP, foldB, List.foldl_cons, List.foldl_nil, stepB, Int.toNat_natCast]
    rw [lowT_get, lowT_get]
    by_cases hab : a = b
    · subst hab
      rw [if_neg (by omega), if_neg (by omega), if_pos rfl, if_pos rfl]
    · rw [if_neg hab, if_neg hab]
      by_cases h1 : (a = n ∧ b < i) ∨ (b = n ∧ a < i)
      · have h1' : (a = n ∧ b < i + 1) ∨ (b = n ∧ a < i + 1) := by omega
        rw [if_pos h1, if_pos h1']
        split <;> split <;> omega
      · rw [if_neg h1]
        by_cases h2 : (a = n ∧ b < i + 1) ∨ (b = n ∧ a < i + 1)
        · rw [if_pos h2]
          split <;> split <;> omega
        · rw [if_neg h2]
          split <;> split <;> omega
theorem fold_S {S : Sv} (o : Nat → Bool) (wd : Int) : ∀ k, k ≤ S.shots.length → foldB (acc (fS S o wd) k) (base S.pts.toNat) = rdT S o wd k := by
  intro k
  induction k with
  | zero => intro _; rfl
  | succ k ih =>
    intro hk
    obtain ⟨x, hx⟩ : ∃ x, S.shots[k]? = some x := ⟨_, List.getElem?_eq_getElem (by omega)⟩
    have hr : (rds S)[k]? = some (x.fr.toNat, x.to.toNat, x.rise) := by
      unfold rds; rw [List.getElem?_append_left (by simp; omega), List.getElem?_map, hx]; rfl
    rw [acc, foldB_app, ih (by omega), rdT, hr]
    simp only [fS, hx]
    cases o k <;> rfl
theorem fold_M {S : Sv} (o : Nat → Bool) (wd : Int) : ∀ k, k ≤ S.marks.length → foldB (acc (fM S o wd) k) (rdT S o wd S.shots.length) = rdT S o wd (S.shots.length + k) := by
  intro k
  induction k with
  | zero => intro _; rfl
  | succ k ih =>
    intro hk
    obtain ⟨x, hx⟩ : ∃ x, S.marks[k]? = some x := ⟨_, List.getElem?_eq_getElem (by omega)⟩
    have hr : (rds S)[S.shots.length + k]? = some (S.pts.toNat, x.pt.toNat, x.ht) := by
      unfold rds; rw [List.getElem?_append_right (by simp), List.length_map, show S.shots.length + k - S.shots.length = k by omega, List.getElem?_map, hx]; rfl
    rw [acc, foldB_app, ih (by omega), show S.shots.length + (k + 1) = (S.shots.length + k) + 1 by omega, rdT, hr]
    simp only [fM, hx]
    cases o (S.shots.length + k) <;> rfl
theorem fold_bds {S : Sv} (hS : OkSv S) (o : Nat → Bool) (wd : Int) : foldB (bds S o wd) init0 = rdT S o wd (rds S).length := by
  have hp := hS.1
  simp only [In] at hp
  unfold bds
  rw [foldB_app, foldB_app]
  have e : (S.pts : Int) = ((S.pts.toNat : Nat) : Int) := by omega
  have e1 : foldB (acc (fP S.pts) S.pts.toNat) init0 = base S.pts.toNat := by
    rw [e]; simp only [Int.toNat_natCast]; rw [fold_P _ _ (Nat.le_refl _)]; rfl
  rw [e1, fold_S o wd _ (Nat.le_refl _), fold_M o wd _ (Nat.le_refl _)]
  simp [rds]
theorem mem_acc {f : Nat → List Bd} {b : Bd} : ∀ {n : Nat}, b ∈ acc f n → ∃ k, k < n ∧ b ∈ f k := by
  intro n
  induction n with
  | zero => intro h; cases h
  | succ n ih =>
    intro h
    rcases List.mem_append.1 h with h | h
    · obtain ⟨k, hk, hb⟩ := ih h; exact ⟨k, by omega, hb⟩
    · exact ⟨n, by omega, h⟩
theorem bds_ok {S : Sv} (hS : OkSv S) {o : Nat → Bool} {wd : Int} (hw : 0 ≤ wd ∧ wd ≤ 40000000) : ∀ b ∈ bds S o wd, (0 ≤ b.1 ∧ b.1 ≤ 20) ∧ (0 ≤ b.2.1 ∧ b.2.1 ≤ 20) ∧ -20000000 ≤ b.2.2 ∧ b.2.2 ≤ 100000000 := by
  obtain ⟨s1, _, _, _, s5, s6, _⟩ := hS
  simp only [In] at s1
  intro b hb
  rcases List.mem_append.1 hb with h | h
  · obtain ⟨k, hk, h⟩ := mem_acc h
    simp only [fP, List.mem_cons, List.not_mem_nil, or_false] at h
    rcases h with rfl | rfl <;> dsimp only <;> omega
  · rcases List.mem_append.1 h with h | h
    · obtain ⟨k, hk, h⟩ := mem_acc h
      unfold fS at h
      split at h
      · rename_i x hx
        have hox := s5 x (List.mem_of_getElem? hx)
        obtain ⟨h1, h2⟩ := hox
        simp only [In, Ord] at h1 h2
        split at h
        · cases h
        · simp only [List.mem_cons, List.not_mem_nil, or_false] at h
          rcases h with rfl | rfl <;> dsimp only <;> omega
      · cases h
    · obtain ⟨k, hk, h⟩ := mem_acc h
      unfold fM at h
      split at h
      · rename_i x hx
        have hox := s6 x (List.mem_of_getElem? hx)
        obtain ⟨h1, h2⟩ := hox
        simp only [In, Ord] at h1 h2
        split at h
        · cases h
        · simp only [List.mem_cons, List.not_mem_nil, or_false] at h
          rcases h with rfl | rfl <;> dsimp only <;> omega
      · cases h
/-- All entries are small. -/
def BT (T : Tb) (C : Int) : Prop := ∀ a b, -C ≤ T a b ∧ T a b ≤ 20000000
theorem fold_B : ∀ {L : List Bd} {T : Tb}, (∀ b ∈ L, -20000000 ≤ b.2.2) → BT T 20000000 → BT (foldB L T) 20000000 := by
  intro L
  induction L with
  | nil => intro T _ h; exact h
  | cons b L ih =>
    intro T hL hT
    refine ih (fun c hc => hL c (List.mem_cons_of_mem _ hc)) (fun x y => ?_)
    have h1 := hT x y
    have h2 := hL b List.mem_cons_self
    unfold stepB
    rw [lowT_get]
    split <;> omega
theorem init_B : BT init0 20000000 := fun a b => by unfold init0; split <;> omega
theorem fw_state {T : Tb} {j w r m : Nat} (hj : T j j = 0) (hm : m ≤ w) (a b : Nat) : fwCol j r m (fwRow j w r T) a b = if (a = r ∧ b < m) ∨ (a < r ∧ b < w) then par T j a b else T a b := by
  have hpj : ∀ b, par T j j b = T j b := fun b => by simp only [par, hj]; omega
  have hTj : ∀ b, fwRow j w r T j b = T j b := fun b => by
    rw [fwRow_spec hj]; split
    · exact hpj b
    · rfl
  rw [fwCol_spec (by rw [hTj]; exact hj)]
  by_cases h : a = r ∧ b < m
  · rw [if_pos h, if_pos (.inl h)]
    obtain ⟨rfl, h2⟩ := h
    simp only [par]
    rw [hTj, fwRow_spec hj, if_neg (by omega), fwRow_spec hj, if_neg (by omega)]
  · rw [if_neg h, fwRow_spec hj]
    by_cases h2 : a < r ∧ b < w
    · rw [if_pos h2, if_pos (.inr h2)]
    · rw [if_neg h2, if_neg (by omega)]
theorem fw_B {T : Tb} {C : Int} {j w r m : Nat} (hj : T j j = 0) (hm : m ≤ w) (hT : BT T C) (hC : 0 ≤ C) : BT (fwCol j r m (fwRow j w r T)) (2 * C) := by
  intro a b
  rw [fw_state hj hm]
  have h1 := hT a b
  have h2 := hT a j
  have h3 := hT j b
  split
  · simp only [par]; omega
  · omega
theorem fwAll_B {T : Tb} {w : Nat} (h0 : ∀ a, a < w → T a a = 0) (hT : BT T 20000000) : ∀ j, j ≤ w → (fwAll w j T).2 = true → BT (fwAll w j T).1 (20000000 * 2 ^ j) := by
  intro j
  induction j with
  | zero => intro _ _; simpa [fwAll] using hT
  | succ j ih =>
    intro hj hok
    rw [fwAll] at hok ⊢
    by_cases hp : (fwAll w j T).2 = true
    · rw [if_pos hp] at hok ⊢
      have hc := ((fwAll_spec h0 j (by omega)).1 hp).1
      have hB := ih (by omega) hp
      have := fw_B (r := w) (m := 0) (w := w) (hc.diag j (by omega)) (Nat.zero_le _) hB (by have : (0 : Int) < 2 ^ j := Int.pow_pos (by omega); omega)
      rw [Int.pow_succ]
      have e : (20000000 : Int) * (2 ^ j * 2) = 2 * (20000000 * 2 ^ j) := by omega
      rw [e]; exact this
    · rw [if_neg hp] at hok; exact absurd hok hp
theorem fwAll_stop {T : Tb} {w r : Nat} (h : (fwAll w r T).2 = false) : ∀ q, r ≤ q → fwAll w q T = fwAll w r T := by
  intro q
  induction q with
  | zero => intro hq; have : r = 0 := by omega
            subst this; rfl
  | succ q ih =>
    intro hq
    by_cases he : r = q + 1
    · subst he; rfl
    · have e := ih (by omega)
      rw [fwAll, e, if_neg (by rw [h]; simp)]
theorem pow_small {j : Nat} (hj : j ≤ 21) : (0 : Int) < 2 ^ j ∧ (2 : Int) ^ j ≤ 2097152 := by
  refine ⟨Int.pow_pos (by omega), ?_⟩
  have h : (2 : Nat) ^ j ≤ 2 ^ 21 := Nat.pow_le_pow_right (by omega) hj
  have : ((2 ^ j : Nat) : Int) ≤ ((2 ^ 21 : Nat) : Int) := by omega
  simpa using this
theorem lowT_idem (T : Tb) (i k : Nat) (v : Int) : lowT (lowT T i k v) i k v = lowT T i k v := by
  funext a b
  rw [lowT_get, lowT_get]
  split <;> omega
/-- The cells while the table is laid out. -/
def initK (i k : Nat) : Tb := fun a b => if (a < i ∨ a = i ∧ b < k) ∧ a ≠ b then 20000000 else 0
theorem initK_zero : initK 0 0 = fun _ _ => 0 := by funext a b; unfold initK; rw [if_neg (by omega)]
theorem initK_upd {i k : Nat} (h : i ≠ k) : updT (initK i k) i k 20000000 = initK i (k + 1) := by
  funext a b
  unfold updT initK
  by_cases h1 : a = i ∧ b = k
  · rw [if_pos h1, if_pos (by omega)]
  · rw [if_neg h1]
    by_cases h2 : (a < i ∨ a = i ∧ b < k) ∧ a ≠ b
    · rw [if_pos h2, if_pos (by omega)]
    · rw [if_neg h2, if_neg (by omega)]
theorem initK_same {i : Nat} : initK i i = initK i (i + 1) := by
  funext a b
  unfold initK
  by_cases h2 : (a < i ∨ a = i ∧ b < i) ∧ a ≠ b
  · rw [if_pos h2, if_pos (by omega)]
  · rw [if_neg h2, if_neg (by omega)]
theorem initK_row (i : Nat) : encT 21 441 (initK i 21) = encT 21 441 (initK (i + 1) 0) := by
  refine encT_congr (by omega) (fun a b h1 h2 => ?_)
  unfold initK
  by_cases h : (a < i ∨ a = i ∧ b < 21) ∧ a ≠ b
  · rw [if_pos h, if_pos (by omega)]
  · rw [if_neg h, if_neg (by omega)]
theorem initK_all : encT 21 441 (initK 21 0) = encT 21 441 init0 := by
  refine encT_congr (by omega) (fun a b h1 h2 => ?_)
  unfold initK init0
  have : a < 21 := by
    apply Classical.byContradiction; intro hc
    have : 21 * 21 ≤ a * 21 := Nat.mul_le_mul_right _ (by omega)
    omega
  by_cases h : a = b
  · rw [if_pos h, if_neg (by omega)]
  · rw [if_neg h, if_pos (by omega)]
end Go.Proofs.YtoolblbdmmiahaaDoor
