/- Plain laws of a death: what heirs get, in minutes, and whose the pieces are then. -/
import Derived.Test.YtkpkebpofpcmaaaGreatDoorD10
import Derived.Test.YtkpkebpofpcmaaaGreatDoorS2
namespace Go.Proofs.YtkpkebpofpcmaaaGreatDoor
open Go Go.Eng

def lenP (p : Pc) : Int := p.turn.2 - p.turn.1
def isO (fr : Int) (p : Pc) : Bool := decide (p.owner = fr)
def ownS (fr : Int) : List Pc → Int
  | [] => 0
  | p :: l => (if p.owner = fr then lenP p else 0) + ownS fr l
def mO (part : Int) (p : Pc) : Int := min (p.turn.1 + part) p.turn.2
def gvP (fr who : Int) : Nat → Int → List Pc → List Pc
  | 0, _, l => l
  | f + 1, part, l => if 0 < part then
      (fun (k : Nat) (m : Int) => gvP fr who f (part - lenP ((cutP m l).getD k pc0)) ((cutP m l).set k { (cutP m l).getD k pc0 with owner := who })) (fidx (isO fr) l).toNat (mO part (l.getD (fidx (isO fr) l).toNat pc0))
    else l
theorem chP_set {e : Int} {q q' : Pc} (ht : q'.turn = q.turn) : ∀ {l : List Pc} {s : Int} {k : Nat}, chP e s l → l[k]? = some q → chP e s (l.set k q')
  | [], s, k, _, h => by simp at h
  | p :: l, s, 0, h, hk => by
    simp at hk; subst hk
    show q'.turn.1 = s ∧ q'.turn.1 < q'.turn.2 ∧ chP e q'.turn.2 l
    rw [ht]; exact h
  | p :: l, s, k + 1, h, hk => ⟨h.1, h.2.1, chP_set ht h.2.2 (by simpa using hk)⟩
theorem gv_step {e fr part : Int} (hp : 0 < part) : ∀ {l : List Pc} {s : Int}, chP e s l → part ≤ ownS fr l → ∃ (k : Nat) (p : Pc), fidx (isO fr) l = k ∧ l[k]? = some p ∧ p.owner = fr ∧ s ≤ p.turn.1 ∧ p.turn.1 < mO part p ∧ mO part p ≤ p.turn.1 + part ∧
    (cutP (mO part p) l)[k]? = some { p with turn := (p.turn.1, mO part p) } ∧ chP e s (cutP (mO part p) l) ∧ ∀ who, who ≠ fr → ownS fr ((cutP (mO part p) l).set k { p with turn := (p.turn.1, mO part p), owner := who }) = ownS fr l - (mO part p - p.turn.1)
  | [], s, _, h => by simp [ownS] at h; omega
  | p :: l, s, h, ho => by
    obtain ⟨g1, g2, g3⟩ := h
    by_cases hf : p.owner = fr
    · have e0 : fidx (isO fr) (p :: l) = ((0 : Nat) : Int) := by unfold fidx; rw [if_pos (by simp [isO, hf])]; rfl
      have hm1 : p.turn.1 < mO part p := by unfold mO; omega
      have hm2 : mO part p ≤ p.turn.1 + part := by unfold mO; omega
      have hm3 : mO part p ≤ p.turn.2 := by unfold mO; omega
      refine ⟨0, p, e0, rfl, hf, by omega, hm1, hm2, ?_⟩
      by_cases hin : mO part p < p.turn.2
      · have hi : insideB (mO part p) p = true := by simp [insideB]; omega
        rw [cutP, if_pos hi]
        refine ⟨rfl, ⟨g1, hm1, rfl, hin, g3⟩, fun who hw => ?_⟩
        simp only [List.set_cons_zero, ownS, hf, if_true, lenP]
        rw [if_neg hw]; omega
      · have hme : mO part p = p.turn.2 := by omega
        have hi : insideB (mO part p) p = false := by simp [insideB]; omega
        have hl : cutP (mO part p) l = l := cutP_none (fun q hq => by
          have := chP_mem g3 q hq
          simp [insideB]; omega)
        have hpe : ({ p with turn := (p.turn.1, mO part p) } : Pc) = p := by rw [hme]
        rw [cutP, if_neg (by rw [hi]; simp), hl]
        refine ⟨by rw [hpe]; rfl, ⟨g1, g2, g3⟩, fun who hw => ?_⟩
        simp only [List.set_cons_zero, ownS, hf, if_true, lenP]
        rw [if_neg hw]; omega
    · have ho' : part ≤ ownS fr l := by simpa [ownS, hf] using ho
      obtain ⟨k, q, h1, h2, h3, h4, h5, h6, h7, h8, h9⟩ := gv_step hp g3 ho'
      have hi : insideB (mO part q) p = false := by simp [insideB]; omega
      have e1 : cutP (mO part q) (p :: l) = p :: cutP (mO part q) l := by rw [cutP, if_neg (by rw [hi]; simp)]
      refine ⟨k + 1, q, ?_, by simpa using h2, h3, by omega, h5, h6, by rw [e1]; simpa using h7, by rw [e1]; exact ⟨g1, g2, h8⟩, fun who hw => ?_⟩
      · unfold fidx; rw [if_neg (by simp [isO, hf]), if_neg (by omega), h1]; rfl
      · rw [e1, List.set_cons_succ, ownS, h9 who hw, ownS, if_neg hf]; omega

/-! Parts -/
def sumP : List Sp → Int
  | [] => 0
  | h :: l => h.2 + sumP l
def sumI : List Int → Int
  | [] => 0
  | x :: l => x + sumI l
def outsM (n S : Int) (hs : List Sp) : List Int := hs.map fun h => n * h.2 / S
def leftM (n : Int) (hs : List Sp) : Int := n - sumI (outsM n (sumP hs) hs)
def prtA (hs : List Sp) (i : Int) : Int := (hs.getD i.toNat (0, 0)).2
def cmpH (n : Int) (hs : List Sp) (i k : Int) : Int := n * prtA hs k % sumP hs - n * prtA hs i % sumP hs
def upto (k : Nat) : List Int := (List.range k).map fun (i : Nat) => (i : Int)
def ordM (n : Int) (hs : List Sp) : List Int := insS (ltC (cmpH n hs)) 0 hs.length (upto hs.length)
def incM (o : List Int) (i : Int) : List Int := o.set i.toNat (o.getD i.toNat 0 + 1)
def divM (n : Int) (hs : List Sp) : List Int := ((ordM n hs).take (leftM n hs).toNat).foldl incM (outsM n (sumP hs) hs)
theorem upto_succ (k : Nat) : upto (k + 1) = upto k ++ [(k : Int)] := by simp [upto, List.range_succ]
theorem upto_len (k : Nat) : (upto k).length = k := by simp [upto]
theorem mem_upto {k : Nat} {i : Int} (h : i ∈ upto k) : 0 ≤ i ∧ i < k := by
  simp [upto] at h
  obtain ⟨a, h1, rfl⟩ := h; omega
theorem ord_keeps (n : Int) (hs : List Sp) : Keeps (upto hs.length) (ordM n hs) := insS_keeps _ _ _ _
theorem outsM_len (n S : Int) (hs : List Sp) : (outsM n S hs).length = hs.length := by simp [outsM]
theorem incM_len (o : List Int) (i : Int) : (incM o i).length = o.length := by simp [incM]
theorem fold_len : ∀ (l o : List Int), (l.foldl incM o).length = o.length
  | [], o => rfl
  | i :: l, o => by rw [List.foldl_cons, fold_len l, incM_len]
theorem divM_len (n : Int) (hs : List Sp) : (divM n hs).length = hs.length := by unfold divM; rw [fold_len, outsM_len]
theorem sumI_set : ∀ (o : List Int) (k : Nat) (v : Int), k < o.length → sumI (o.set k v) = sumI o - o.getD k 0 + v
  | [], k, v, h => by simp at h
  | x :: o, 0, v, h => by simp [sumI]; omega
  | x :: o, k + 1, v, h => by
    have := sumI_set o k v (by simpa using h)
    simp only [List.set_cons_succ, sumI, List.getD_cons_succ]; omega
theorem sum_fold : ∀ (l o : List Int), (∀ i ∈ l, 0 ≤ i ∧ i < (o.length : Int)) → sumI (l.foldl incM o) = sumI o + l.length
  | [], o, _ => by simp
  | i :: l, o, h => by
    obtain ⟨h1, h2⟩ := h i List.mem_cons_self
    rw [List.foldl_cons, sum_fold l (incM o i) (fun j hj => by rw [incM_len]; exact h j (List.mem_cons_of_mem _ hj))]
    unfold incM
    rw [sumI_set _ _ _ (by omega)]
    simp only [List.length_cons]; omega
theorem nn_fold : ∀ (l o : List Int), (∀ x ∈ o, 0 ≤ x) → ∀ x ∈ l.foldl incM o, 0 ≤ x
  | [], o, h => h
  | i :: l, o, h => by
    rw [List.foldl_cons]
    refine nn_fold l (incM o i) fun x hx => ?_
    rcases List.mem_or_eq_of_mem_set hx with hx | rfl
    · exact h x hx
    · rw [List.getD_eq_getElem?_getD]
      cases hg : o[i.toNat]? with
      | none => simp
      | some y => have := h y (List.mem_of_getElem? hg); simp; omega
theorem sum_outs {n S : Int} (hS : 0 < S) : ∀ hs : List Sp, S * sumI (outsM n S hs) ≤ n * sumP hs ∧ n * sumP hs ≤ S * (sumI (outsM n S hs) + hs.length)
  | [] => by simp [outsM, sumI, sumP]
  | h :: hs => by
    have ih := sum_outs (n := n) hS hs
    have h1 : S * (n * h.2 / S) ≤ n * h.2 := Int.mul_ediv_self_le (by omega)
    have h2 : n * h.2 < S * (n * h.2 / S) + S := Int.lt_mul_ediv_self_add hS
    have e1 : outsM n S (h :: hs) = n * h.2 / S :: outsM n S hs := rfl
    rw [e1, sumI, sumP, Int.mul_add, Int.mul_add, List.length_cons]
    have e2 : S * (n * h.2 / S + sumI (outsM n S hs) + ((hs.length + 1 : Nat) : Int)) = S * (n * h.2 / S) + S + S * (sumI (outsM n S hs) + hs.length) := by
      rw [Int.natCast_add, Int.mul_add, Int.mul_add, Int.mul_add, Int.mul_add]; simp; omega
    rw [e2]
    omega
structure OkH (hs : List Sp) : Prop where
  ne : hs ≠ []
  len : hs.length ≤ 8
  p : ∀ h ∈ hs, 1 ≤ h.2 ∧ h.2 ≤ 1000
theorem sumP_bd : ∀ hs : List Sp, (∀ h ∈ hs, 1 ≤ h.2 ∧ h.2 ≤ 1000) → (hs.length : Int) ≤ sumP hs ∧ sumP hs ≤ 1000 * hs.length
  | [], _ => by simp [sumP]
  | h :: hs, hh => by
    have := sumP_bd hs (fun x hx => hh x (List.mem_cons_of_mem _ hx))
    have := hh h List.mem_cons_self
    simp only [sumP, List.length_cons]; omega
theorem OkH.sum {hs : List Sp} (h : OkH hs) : 1 ≤ sumP hs ∧ sumP hs ≤ 8000 := by
  have := sumP_bd hs h.p
  have := h.len
  have : 0 < hs.length := List.length_pos_iff.2 h.ne
  omega
theorem left_bd {n : Int} {hs : List Sp} (h : OkH hs) : 0 ≤ leftM n hs ∧ leftM n hs ≤ hs.length := by
  obtain ⟨h1, h2⟩ := sum_outs (n := n) (S := sumP hs) (by have := h.sum; omega) hs
  have hS := h.sum
  rw [Int.mul_comm n] at h1 h2
  have h3 := Int.le_of_mul_le_mul_left h1 (by omega)
  have h4 := Int.le_of_mul_le_mul_left h2 (by omega)
  unfold leftM; omega
theorem div_sum {n : Int} {hs : List Sp} (h : OkH hs) : sumI (divM n hs) = n := by
  obtain ⟨h1, h2⟩ := left_bd (n := n) h
  have hk := ord_keeps n hs
  have hl := hk.len
  rw [upto_len] at hl
  unfold divM
  rw [sum_fold _ _ (fun i hi => by
    rw [outsM_len]
    exact mem_upto (hk.mem i (List.mem_of_mem_take hi)))]
  rw [List.length_take, hl]
  unfold leftM at h1 h2 ⊢
  omega
theorem div_nn {n : Int} {hs : List Sp} (h : OkH hs) (hn : 0 ≤ n) : ∀ x ∈ divM n hs, 0 ≤ x := by
  refine nn_fold _ _ fun x hx => ?_
  unfold outsM at hx
  obtain ⟨y, hy, rfl⟩ := List.mem_map.1 hx
  have := h.p y hy
  have := h.sum
  exact Int.ediv_nonneg (Int.mul_nonneg hn (by omega)) (by omega)

/-! The pieces -/
def gvAll (fr : Int) : List (Int × Int) → List Pc → List Pc
  | [], l => l
  | q :: r, l => gvAll fr r (gvP fr q.1 q.2.toNat q.2 l)
def unlet (fr : Int) (p : Pc) : Pc := if p.let_ = fr then { p with let_ := 0, until_ := 0 } else p
def heirsM (d : Dd) (dead : Int → Bool) : List Sp := if (d.heirs.filter fun h => !dead h.1) = [] then [(0, 1)] else d.heirs.filter fun h => !dead h.1
def deadU (d : Dd) (dead : Int → Bool) : Int → Bool := fun k => if k = d.fr then true else dead k
def deathM (d : Dd) (pcs : List Pc) (dead : Int → Bool) : Int × List Pc × (Int → Bool) :=
  (0, gvAll d.fr (((heirsM d (deadU d dead)).map (·.1)).zip (divM (ownS d.fr pcs) (heirsM d (deadU d dead)))) (pcs.map (unlet d.fr)), deadU d dead)
theorem unlet_turn (fr : Int) (p : Pc) : (unlet fr p).turn = p.turn := by unfold unlet; split <;> rfl
theorem unlet_owner (fr : Int) (p : Pc) : (unlet fr p).owner = p.owner := by unfold unlet; split <;> rfl
theorem ownS_unlet (fr : Int) : ∀ l : List Pc, ownS fr (l.map (unlet fr)) = ownS fr l
  | [] => rfl
  | p :: l => by rw [List.map_cons, ownS, ownS, ownS_unlet fr l, unlet_owner, lenP, unlet_turn]; rfl
theorem ownS_nn {e fr : Int} : ∀ {l : List Pc} {s : Int}, chP e s l → 0 ≤ ownS fr l ∧ ownS fr l ≤ e - s
  | [], s, h => by simp [chP] at h; simp [ownS]; omega
  | p :: l, s, h => by
    obtain ⟨g1, g2, g3⟩ := h
    have := ownS_nn (fr := fr) g3
    simp only [ownS, lenP]
    split <;> omega
theorem gvP_ok {e fr who : Int} (hw : who ≠ fr) : ∀ (f : Nat) (part : Int) (l : List Pc), chP e 0 l → 0 ≤ part → part ≤ f → part ≤ ownS fr l → chP e 0 (gvP fr who f part l) ∧ ownS fr (gvP fr who f part l) = ownS fr l - part
  | 0, part, l, h, h0, hf, _ => ⟨h, by simp only [gvP]; omega⟩
  | f + 1, part, l, h, h0, hf, ho => by
    unfold gvP
    split
    · rename_i hp
      obtain ⟨k, p, h1, h2, h3, h4, h5, h6, h7, h8, h9⟩ := gv_step hp h ho
      have ek : (fidx (isO fr) l).toNat = k := by rw [h1]; rfl
      have ep : l.getD k pc0 = p := by rw [List.getD_eq_getElem?_getD, h2]; rfl
      have eq : (cutP (mO part p) l).getD k pc0 = { p with turn := (p.turn.1, mO part p) } := by rw [List.getD_eq_getElem?_getD, h7]; rfl
      dsimp only
      rw [ek, ep, eq]
      have h10 := h9 who hw
      have := gvP_ok hw f (part - (mO part p - p.turn.1)) ((cutP (mO part p) l).set k { p with turn := (p.turn.1, mO part p), owner := who }) (chP_set (by rfl) h8 h7) (by omega) (by omega) (by omega)
      refine ⟨this.1, ?_⟩
      have h11 := this.2
      rw [h10] at h11
      simp only [lenP]
      omega
    · exact ⟨h, by omega⟩
theorem gvAll_ok {e fr : Int} : ∀ (q : List (Int × Int)) (l : List Pc), (∀ x ∈ q, x.1 ≠ fr ∧ 0 ≤ x.2) → chP e 0 l → ownS fr l = sumI (q.map (·.2)) → chP e 0 (gvAll fr q l)
  | [], l, _, h, _ => h
  | x :: q, l, hq, h, ho => by
    obtain ⟨hw, hp⟩ := hq x List.mem_cons_self
    have hs : 0 ≤ sumI (q.map (·.2)) := by
      have : ∀ y ∈ q, y.1 ≠ fr ∧ 0 ≤ y.2 := fun y hy => hq y (List.mem_cons_of_mem _ hy)
      clear ho hq
      induction q with
      | nil => simp [sumI]
      | cons y q ih =>
        have h1 := ih (fun z hz => this z (List.mem_cons_of_mem _ hz))
        have h2 := (this y List.mem_cons_self).2
        simp only [List.map_cons, sumI]; omega
    simp only [List.map_cons, sumI] at ho
    obtain ⟨h1, h2⟩ := gvP_ok hw x.2.toNat x.2 l h hp (by omega) (by omega)
    rw [gvAll]
    exact gvAll_ok q _ (fun y hy => hq y (List.mem_cons_of_mem _ hy)) h1 (by omega)
end Go.Proofs.YtkpkebpofpcmaaaGreatDoor
