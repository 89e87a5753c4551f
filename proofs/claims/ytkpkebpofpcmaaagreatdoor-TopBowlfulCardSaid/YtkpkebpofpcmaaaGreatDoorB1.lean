/- Plain law: less goes down where all canals are dry. -/
import Derived.Test.YtkpkebpofpcmaaaGreatDoorC7
namespace Go.Proofs.YtkpkebpofpcmaaaGreatDoor
open Go Go.Eng Go.RowKit Go.Proofs
theorem downM_mono {a v f f' t : Int} (h : a ≤ v) (hf : f' ≤ f) (ht : 0 ≤ t) : downM a f t ≤ downM v f' t := by
  unfold downM
  exact Int.ediv_le_ediv (by decide) (Int.mul_le_mul_of_nonneg_right (by omega) ht)
theorem loW_lo {n : Nt} (hn : OkNt n) (dl : List Int) : ∀ (path : List Int) (v : Sp) (L : List Sp) (a : Int), (∀ c ∈ path, 0 ≤ c ∧ c.toNat < n.canals.length) → VS v → a ≤ v.1 → loW n path a ≤ (goW n dl path v L).1.1 ∧ VS (goW n dl path v L).1
  | [], v, L, a, _, hv, h => ⟨h, hv⟩
  | c :: cs, v, L, a, hp, hv, h => by
    obtain ⟨h0, hc⟩ := hp c List.mem_cons_self
    have hw := wkAt_ok hn dl c hc
    rw [loW, goW]
    refine loW_lo hn dl cs _ _ _ (fun x hx => hp x (List.mem_cons_of_mem _ hx)) (goesM_ok hw hv) ?_
    have hcn := hn.can c.toNat _ (List.getElem?_eq_getElem hc)
    have hat : cnAt n c = n.canals[c.toNat] := by unfold cnAt; rw [List.getD_eq_getElem?_getD, List.getElem?_eq_getElem hc]; rfl
    obtain ⟨_, ⟨s1, s2, s3⟩, ⟨f1, f2, f3⟩⟩ := hcn
    unfold wkAt goesM workM
    rw [hat]
    dsimp only
    refine downM_mono h ?_ (by omega)
    split
    · exact Int.le_refl _
    · show (0 : Int) ≤ _
      rw [if_pos rfl]; omega
theorem loW_nn {n : Nt} (hn : OkNt n) : ∀ (path : List Int) (a : Int), (∀ c ∈ path, 0 ≤ c ∧ c.toNat < n.canals.length) → VB a → 0 ≤ loW n path a
  | [], a, _, h => h.1
  | c :: cs, a, hp, h => by
    obtain ⟨h0, hc⟩ := hp c List.mem_cons_self
    have hcn := hn.can c.toNat _ (List.getElem?_eq_getElem hc)
    have hat : cnAt n c = n.canals[c.toNat] := by unfold cnAt; rw [List.getD_eq_getElem?_getD, List.getElem?_eq_getElem hc]; rfl
    rw [loW]
    refine loW_nn hn cs _ (fun x hx => hp x (List.mem_cons_of_mem _ hx)) ?_
    rw [hat]
    exact (goesM_ok (workM_ok ⟨hcn.2.1, hcn.2.2⟩ true) (v := (a, a)) ⟨h, h⟩).1
theorem loW_zero {n : Nt} (hn : OkNt n) : ∀ (path : List Int), (∀ c ∈ path, 0 ≤ c ∧ c.toNat < n.canals.length) → loW n path 0 = 0
  | [], _ => rfl
  | c :: cs, hp => by
    obtain ⟨h0, hc⟩ := hp c List.mem_cons_self
    have hcn := hn.can c.toNat _ (List.getElem?_eq_getElem hc)
    have hat : cnAt n c = n.canals[c.toNat] := by unfold cnAt; rw [List.getD_eq_getElem?_getD, List.getElem?_eq_getElem hc]; rfl
    obtain ⟨_, _, ⟨f1, f2, f3⟩⟩ := hcn
    rw [loW, hat, show (goesM (workM n.canals[c.toNat] true) (0, 0)).1 = 0 from ?_]
    · exact loW_zero hn cs (fun x hx => hp x (List.mem_cons_of_mem _ hx))
    · show downM 0 n.canals[c.toNat].fill.2 _ = 0
      unfold downM
      rw [show max 0 (0 - n.canals[c.toNat].fill.2) = 0 by omega, Int.zero_mul]; rfl
theorem so_zero {n : Nt} (hn : OkNt n) {f : Sp} {i : Nat} (hi : i < n.fields.length) {want : Int} (h0 : 0 ≤ want) (h : soM n f i want 0 = true) : want = 0 := by
  unfold soM at h
  have := of_decide_eq_true h
  rw [Int.mul_zero, loW_zero hn _ (pathM_mem hn hi)] at this
  omega
theorem so_no {n : Nt} (hn : OkNt n) {f : Sp} (hf : Ord f 0 13000000) {i : Nat} (hi : i < n.fields.length) {want m : Int} (m0 : 0 ≤ m) (m1 : m ≤ 23040) (h : soM n f i want m = false) : 0 < want := by
  unfold soM at h
  have := of_decide_eq_false h
  have h2 := loW_nn hn (pathM n i) (f.1 * m) (pathM_mem hn hi) (mulW_ok hf m0 m1).1
  omega
theorem wat_one {n : Nt} (hn : OkNt n) {f : Sp} (hf : Ord f 0 13000000) {i : Nat} (hi : i < n.fields.length) {want m to_ : Int} (m0 : 0 ≤ m) (hmt : m ≤ to_) (h1 : to_ ≤ 23040) (h : soM n f i want m = true) {dls : List (List Int)} (hd : dls.length = 1) {F L : List Sp}
    (he : (F, L) = watW n f [⟨(i : Int), (0, to_)⟩] dls) : ∃ x, F[i]? = some x ∧ want ≤ x.1 := by
  obtain ⟨dl, rfl⟩ : ∃ dl, dls = [dl] := by
    match dls, hd with
    | [dl], _ => exact ⟨dl, rfl⟩
  have hv := mulW_ok (m := to_ - 0) hf (by omega) (by omega)
  unfold soM at h
  have hs := of_decide_eq_true h
  have hm : f.1 * m ≤ (mulW f (to_ - 0)).1 := Int.mul_le_mul_of_nonneg_left (by omega) hf.1
  obtain ⟨h2, ⟨v1, v2⟩, _⟩ := loW_lo hn dl (pathM n i) (mulW f (to_ - 0)) (List.replicate n.canals.length (0, 0)) (f.1 * m) (pathM_mem hn hi) hv hm
  have hF : F = (List.replicate n.fields.length ((0 : Int), (0 : Int))).set i (plusM ((List.replicate n.fields.length ((0 : Int), (0 : Int))).getD i (0, 0)) (goW n dl (pathM n i) (mulW f (to_ - 0)) (List.replicate n.canals.length (0, 0))).1) := congrArg Prod.fst he
  refine ⟨_, by rw [hF, List.getElem?_set_self (by simpa using hi)], ?_⟩
  rw [List.getD_eq_getElem?_getD, List.getElem?_replicate, if_pos hi]
  show want ≤ wr (0 + _)
  rw [Int.zero_add, wr_of (by omega)]
  omega
/-- Bowls that are just enough. -/
theorem bowls_enough {m s : Int} (m1 : 1 ≤ m) (s1 : 1000 ≤ s) : m ≤ (1000 * m + s - 1) / s * s / 1000 ∧ ((1000 * m + s - 1) / s - 1) * s / 1000 < m ∧ 1 ≤ (1000 * m + s - 1) / s := by
  have h1 := Int.ediv_mul_le (1000 * m + s - 1) (show s ≠ 0 by omega)
  have h2 := Int.lt_ediv_add_one_mul_self (1000 * m + s - 1) (show 0 < s by omega)
  have h3 : 1 ≤ (1000 * m + s - 1) / s := (Int.le_ediv_iff_mul_le (by omega)).2 (by omega)
  generalize hB : (1000 * m + s - 1) / s = B at h1 h2 h3 ⊢
  rw [Int.add_mul, Int.one_mul] at h2
  rw [Int.sub_mul, Int.one_mul]
  exact ⟨by omega, by omega, h3⟩
end Go.Proofs.YtkpkebpofpcmaaaGreatDoor
