/- Plain laws: the waters where nothing seeps; how the minutes of a round are shared out. -/
import Derived.Test.YtkpkebpofpcmaaaGreatDoorS12
import Derived.Test.YtkpkebpofpcmaaaGreatDoorC6
namespace Go.Proofs.YtkpkebpofpcmaaaGreatDoor
open Go Go.Eng

def NoS (n : Nt) : Prop := ∀ c ∈ n.canals, c.seep = (0, 0) ∧ c.fill = (0, 0)
theorem wk_dry {n : Nt} (h : NoS n) (dl : List Int) (c : Int) (hc : c.toNat < n.canals.length) : wkAt n dl c = ((0, 0), (1000, 1000)) := by
  obtain ⟨a, b⟩ := h _ (List.getElem_mem hc)
  unfold wkAt cnAt workM
  rw [List.getD_eq_getElem?_getD, List.getElem?_eq_getElem hc]
  simp only [Option.getD_some, a, b]
  split <;> rfl
theorem down0 {v : Int} (h : 0 ≤ v) : downM v 0 1000 = v := by unfold downM; rw [show max 0 (v - 0) = v by omega]; omega
theorem rise0 {v : Int} (h : 0 ≤ v) : riseM v 0 1000 = v := by unfold riseM; rw [show max 0 (v - 0) = v by omega]; omega
theorem goes0 {v : Sp} (h : VS v) : goesM ((0, 0), (1000, 1000)) v = v := by
  unfold goesM
  rw [down0 h.1.1, rise0 h.2.1]
theorem seeps0 {v : Sp} (h : VS v) : seepsM ((0, 0), (1000, 1000)) v = (0, 0) := by
  unfold seepsM
  rw [down0 h.2.1, rise0 h.1.1, Int.sub_self, Int.sub_self]
theorem plus0 : plusM (0, 0) (0, 0) = (0, 0) := by
  unfold plusM
  rw [wr_of (by decide)]; rfl
theorem rep_getD (k i : Nat) : (List.replicate k ((0 : Int), (0 : Int))).getD i (0, 0) = (0, 0) := by
  rw [List.getD_eq_getElem?_getD, List.getElem?_replicate]
  split <;> rfl
theorem goW_dry {n : Nt} (h : NoS n) (dl : List Int) (k : Nat) : ∀ (path : List Int) (v : Sp), (∀ c ∈ path, 0 ≤ c ∧ c.toNat < n.canals.length) → VS v → goW n dl path v (List.replicate k (0, 0)) = (v, List.replicate k (0, 0))
  | [], v, _, _ => rfl
  | c :: cs, v, hp, hv => by
    rw [goW, wk_dry h dl c (hp c List.mem_cons_self).2, goes0 hv, seeps0 hv, rep_getD, plus0, List.set_replicate_self]
    exact goW_dry h dl k cs v (fun x hx => hp x (List.mem_cons_of_mem _ hx)) hv
/-- The minutes of uses at a field. -/
def minU : List Us → Int → Int
  | [], _ => 0
  | u :: l, i => (if u.field = i then u.turn.2 - u.turn.1 else 0) + minU l i
theorem minU_snoc (u : Us) (i : Int) : ∀ l : List Us, minU (l ++ [u]) i = minU l i + (if u.field = i then u.turn.2 - u.turn.1 else 0)
  | [] => by simp [minU]
  | x :: l => by rw [List.cons_append, minU, minU, minU_snoc u i l]; omega
theorem minU_bd {n : Nt} (i : Int) : ∀ {l : List Us} {last : Int}, rightP n last l → last ≤ n.days * 1440 → 0 ≤ minU l i ∧ minU l i ≤ n.days * 1440 - last
  | [], last, _, h => by simp only [minU]; omega
  | u :: l, last, h, hl => by
    obtain ⟨_, h2, h3, h4, h5⟩ := h
    have := minU_bd (n := n) i h5 h4
    rw [minU]
    split <;> omega
theorem wat_fold {n : Nt} (hn : OkNt n) (hs : NoS n) {f : Sp} (hf : Ord f 0 13000000) : ∀ (us : List Us) (dls : List (List Int)) (F : List Sp) (last : Int), rightP n last us → 0 ≤ last → last ≤ n.days * 1440 → dls.length = us.length → F.length = n.fields.length →
    (∀ (i : Nat) x, F[i]? = some x → 0 ≤ x.1 ∧ 0 ≤ x.2 ∧ x.1 ≤ 13000000 * last ∧ x.2 ≤ 13000000 * last) →
    ∃ F', (us.zip dls).foldl (fun s x => useW n f x.2 x.1 s) (F, List.replicate n.canals.length (0, 0)) = (F', List.replicate n.canals.length (0, 0)) ∧ F'.length = F.length ∧ ∀ (i : Nat) x, F[i]? = some x → F'[i]? = some (x.1 + f.1 * minU us i, x.2 + f.2 * minU us i)
  | [], dls, F, last, _, _, _, _, _, _ => ⟨F, by simp, rfl, fun i x h => by simp only [minU, Int.mul_zero, Int.add_zero]; exact h⟩
  | u :: us, [], F, last, _, _, _, h, _, _ => by simp at h
  | u :: us, dl :: dls, F, last, hr, h0, hE, hd, hF, hb => by
    obtain ⟨⟨r0, r0'⟩, r2, r3, r4, r5⟩ := hr
    have hdd := hn.days
    obtain ⟨d1, d2⟩ := hdd
    obtain ⟨f1, f2, f3⟩ := hf
    have hm0 : 0 ≤ u.turn.2 - u.turn.1 := by omega
    have hv := mulW_ok (m := u.turn.2 - u.turn.1) ⟨f1, f2, f3⟩ hm0 (by omega)
    have hlt : u.field.toNat < n.fields.length := by omega
    obtain ⟨x, hx⟩ : ∃ x, F[u.field.toNat]? = some x := ⟨_, List.getElem?_eq_getElem (by omega)⟩
    have hxg : F.getD u.field.toNat (0, 0) = x := by rw [List.getD_eq_getElem?_getD, hx]; rfl
    obtain ⟨x1, x2, x3, x4⟩ := hb _ x hx
    have m1 : f.1 * (u.turn.2 - u.turn.1) ≤ 13000000 * (u.turn.2 - u.turn.1) := Int.mul_le_mul_of_nonneg_right (by omega) hm0
    have m2 : f.2 * (u.turn.2 - u.turn.1) ≤ 13000000 * (u.turn.2 - u.turn.1) := Int.mul_le_mul_of_nonneg_right (by omega) hm0
    have m3 : 0 ≤ f.1 * (u.turn.2 - u.turn.1) := Int.mul_nonneg f1 hm0
    have m4 : 0 ≤ f.2 * (u.turn.2 - u.turn.1) := Int.mul_nonneg (by omega) hm0
    have e1 : useW n f dl u (F, List.replicate n.canals.length (0, 0)) = (F.set u.field.toNat (x.1 + f.1 * (u.turn.2 - u.turn.1), x.2 + f.2 * (u.turn.2 - u.turn.1)), List.replicate n.canals.length (0, 0)) := by
      unfold useW
      dsimp only
      rw [goW_dry hs dl _ _ _ (pathM_mem hn hlt) hv, hxg]
      unfold plusM mulW
      dsimp only
      rw [wr_of (by omega), wr_of (by omega)]
    rw [List.zip_cons_cons, List.foldl_cons, e1]
    obtain ⟨F', g1, g2, g3⟩ := wat_fold hn hs ⟨f1, f2, f3⟩ us dls (F.set u.field.toNat (x.1 + f.1 * (u.turn.2 - u.turn.1), x.2 + f.2 * (u.turn.2 - u.turn.1))) u.turn.2 r5 (by omega) r4 (by simpa using hd) (by simpa using hF) (fun i y hy => by
      rw [List.getElem?_set] at hy
      split at hy
      · split at hy
        · cases hy
          dsimp only
          have : 13000000 * last ≤ 13000000 * u.turn.1 := by omega
          omega
        · cases hy
      · have := hb i y hy
        omega)
    refine ⟨F', g1, by rw [g2, List.length_set], fun i y hy => ?_⟩
    rw [minU]
    by_cases hi : u.field.toNat = i
    · subst hi
      rw [hx] at hy; cases hy
      rw [if_pos (show u.field = ((u.field.toNat : Nat) : Int) by omega), g3 u.field.toNat _ (List.getElem?_set_self (by omega)), Int.mul_add, Int.mul_add]
      dsimp only
      rw [Int.add_assoc, Int.add_assoc]
    · rw [if_neg (by omega), Int.zero_add]
      exact g3 i y (by rw [List.getElem?_set_ne hi]; exact hy)
theorem wat_dry {n : Nt} (hn : OkNt n) (hs : NoS n) {f : Sp} (hf : Ord f 0 13000000) {us : List Us} {dls : List (List Int)} (hr : rightP n 0 us) (hd : dls.length = us.length) {F L : List Sp} (he : (F, L) = watW n f us dls) :
    F.length = n.fields.length ∧ L = List.replicate n.canals.length (0, 0) ∧ ∀ i : Nat, i < n.fields.length → F[i]? = some (f.1 * minU us i, f.2 * minU us i) := by
  have hdd := hn.days.1
  obtain ⟨F', h1, h2, h3⟩ := wat_fold hn hs hf us dls (List.replicate n.fields.length (0, 0)) 0 hr (Int.le_refl _) (by omega) hd (by simp) (fun i x hx => by
    rw [List.getElem?_replicate] at hx
    split at hx
    · cases hx; decide
    · cases hx)
  unfold watW at he
  rw [h1] at he
  cases he
  refine ⟨by rw [h2]; simp, rfl, fun i hi => ?_⟩
  rw [h3 i (0, 0) (by rw [List.getElem?_replicate, if_pos hi]), Int.zero_add, Int.zero_add]
/-! The shares -/
theorem right_snoc {n : Nt} {u : Us} {c : Int} (h1 : In u.field 0 ((n.fields.length : Int) - 1)) (h2 : c ≤ u.turn.1) (h3 : u.turn.1 < u.turn.2) (h4 : u.turn.2 ≤ n.days * 1440) : ∀ {l : List Us} {a : Int}, rightP n a l → a ≤ c → (∀ x ∈ l, x.turn.2 ≤ c) → rightP n a (l ++ [u])
  | [], a, _, ha, _ => ⟨h1, by omega, h3, h4, trivial⟩
  | x :: l, a, h, ha, hx => ⟨h.1, h.2.1, h.2.2.1, h.2.2.2.1, right_snoc h1 h2 h3 h4 h.2.2.2.2 (hx x List.mem_cons_self) (fun y hy => hx y (List.mem_cons_of_mem _ hy))⟩
structure SInv (n : Nt) (us : List Us) (ms : List Int) (on cur : Int) : Prop where
  len : ms.length = n.fields.length
  on0 : 0 ≤ on
  m : ∀ i : Nat, i < n.fields.length → ms[i]? = some (minU us i)
  tot : sumI ms + on = cur
  rt : rightP n 0 us
  le : ∀ x ∈ us, x.turn.2 ≤ cur
  c0 : 0 ≤ cur
theorem sumI_rep : ∀ k : Nat, sumI (List.replicate k 0) = 0
  | 0 => rfl
  | k + 1 => by rw [List.replicate_succ, sumI, sumI_rep k]; rfl
theorem SInv.zero (n : Nt) : SInv n [] (List.replicate n.fields.length 0) 0 0 :=
  ⟨by simp, Int.le_refl _, fun i hi => by rw [List.getElem?_replicate, if_pos hi]; rfl, by rw [sumI_rep]; rfl, trivial, fun x hx => (by cases hx), Int.le_refl _⟩
theorem SInv.skip {n : Nt} {us : List Us} {ms : List Int} {on cur e : Int} (h : SInv n us ms on cur) (he : cur < e) : SInv n us ms (on + (e - cur)) e :=
  ⟨h.len, by have := h.on0; omega, h.m, by have := h.tot; omega, h.rt, fun x hx => by have := h.le x hx; omega, by have := h.c0; omega⟩
theorem SInv.take {n : Nt} {us : List Us} {ms : List Int} {on cur e : Int} (h : SInv n us ms on cur) (he : cur < e) (hE : e ≤ n.days * 1440) {k : Nat} (hk : k < n.fields.length) :
    SInv n (us ++ [⟨(k : Int), (cur, e)⟩]) (ms.set k (ms.getD k 0 + (e - cur))) on e := by
  have hl := h.len
  refine ⟨by rw [List.length_set, hl], h.on0, fun i hi => ?_, ?_, right_snoc (u := ⟨(k : Int), (cur, e)⟩) ⟨by dsimp only; omega, by dsimp only; omega⟩ (Int.le_refl _) he hE h.rt h.c0 h.le, fun x hx => ?_, by have := h.c0; omega⟩
  · rw [minU_snoc]
    by_cases e1 : k = i
    · subst e1
      rw [List.getElem?_set_self (by omega), List.getD_eq_getElem?_getD, h.m k hk, if_pos rfl]; rfl
    · rw [List.getElem?_set_ne e1, h.m i hi, if_neg (by dsimp only; omega), Int.add_zero]
  · rw [sumI_set _ _ _ (by omega)]
    have := h.tot; omega
  · rcases List.mem_append.1 hx with hx | hx
    · have := h.le x hx; omega
    · rw [List.mem_singleton.1 hx]; exact Int.le_refl _
theorem sum_take (l : List Int) (j : Nat) (v : Int) (h : l[j]? = some v) : sumI (l.take (j + 1)) = sumI (l.take j) + v := by
  rw [List.take_add_one, h]
  have : ∀ a b : List Int, sumI (a ++ b) = sumI a + sumI b := fun a b => by
    induction a with
    | nil => simp [sumI]
    | cons x a ih => simp only [List.cons_append, sumI, ih]; omega
  rw [this]; simp [sumI]
theorem sum_nn : ∀ l : List Int, (∀ x ∈ l, 0 ≤ x) → 0 ≤ sumI l
  | [], _ => Int.le_refl _
  | x :: l, h => by
    have := sum_nn l (fun y hy => h y (List.mem_cons_of_mem _ hy))
    have := h x List.mem_cons_self
    simp only [sumI]; omega
theorem sum_take_le (l : List Int) (h : ∀ x ∈ l, 0 ≤ x) (j : Nat) : 0 ≤ sumI (l.take j) ∧ sumI (l.take j) ≤ sumI l := by
  refine ⟨sum_nn _ (fun x hx => h x (List.mem_of_mem_take hx)), ?_⟩
  induction l generalizing j with
  | nil => simp
  | cons x l ih =>
    cases j with
    | zero => exact sum_nn (x :: l) h
    | succ j => have := ih (fun y hy => h y (List.mem_cons_of_mem _ hy)) j; simp only [List.take_succ_cons, sumI]; omega
end Go.Proofs.YtkpkebpofpcmaaaGreatDoor
