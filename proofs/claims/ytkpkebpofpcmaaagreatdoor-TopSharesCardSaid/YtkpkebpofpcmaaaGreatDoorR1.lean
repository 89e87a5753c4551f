/- Walks of the package hour: On, where turns and the minute are valid. Walks: whether clocks and nights are great; choices. -/
import Derived.Test.YtkpkebpofpcmaaaGreatDoorT2
namespace Go.Proofs.YtkpkebpofpcmaaaGreatDoor
open Go Go.Eng Go.RowKit Go.Proofs
set_option maxHeartbeats 2000000
set_option maxRecDepth 10000
attribute [local irreducible] TL TC TQ

def lastA (l : List Sp) (j : Nat) : Int := if j = 0 then 0 else (l.getD (j - 1) (0, 0)).2
def okT (l : List Sp) (j : Nat) (x : Sp) : Prop := In x.1 (lastA l j) 23040 ∧ In x.2 (wr (x.1 + 1)) 23040
instance (l : List Sp) (j : Nat) (x : Sp) : Decidable (okT l j x) := inferInstanceAs (Decidable (_ ∧ _))
def okTurns (l : List Sp) : Prop := ∀ (j : Nat) x, l[j]? = some x → okT l j x
theorem c66 (l : List Sp) (j : Nat) (x : Sp) (hx : l[j]? = some x) (b7 : Nat) (G : Hp) {B : Nat} {w0 : World} (w : World) (hs : SH B w0 w ((b7, .cells [.int .i64 (lastA l j)] 3) :: G)) :
    Calls Tryz.prog 66 #[.agg (encSp x).toArray, .pointer (some ⟨b7, 0, none⟩)] w (RetP B w0 (fun _ : Unit => .bool (decide (okT l j x))) (fun _ => (b7, .cells [.int .i64 (lastA l (j + 1))] 3) :: G) (fun _ => True)) := by
  have e : lastA l (j + 1) = x.2 := by
    unfold lastA
    rw [if_neg (by omega), Nat.add_sub_cancel, List.getD_eq_getElem?_getD, hx]; rfl
  rw [e]
  refine enter (args := [.agg (encSp x).toArray, .pointer (some ⟨b7, 0, none⟩)]) Tryz.func66 rfl Tryz.ntmps66 rfl hs ?_
  repeat' (first | refine rn ?_ | (refine zb ?_; intro _ _) | (refine za ?_; intro _ _) | (refine zs ?_; intro _ _))
  refine TL_callV rfl rfl rfl (fun w h => c67 (lastA l j) 23040 [x.1] _ 1 (by simp [Small]) w (Sl.of_blk h mm (fun _ _ => rfl) ⟨[], rfl⟩)) ?_
  repeat' (first | refine rn ?_ | (refine zb ?_; intro _ _) | (refine za ?_; intro _ _) | (refine zs ?_; intro _ _))
  refine TL_gsplit_dec rfl rfl (fun g1 => ?_) (fun g1 => ?_)
  · repeat' (first | refine rn ?_ | (refine zb ?_; intro _ _) | (refine za ?_; intro _ _) | (refine zs ?_; intro _ _) | (refine wo ?_))
    refine TL_callV rfl rfl rfl (fun w h => c67 (wr (x.1 + 1)) 23040 [x.2] _ 1 (by simp [Small]) w (Sl.of_blk h mm (fun _ _ => rfl) ⟨[], rfl⟩)) ?_
    repeat' (first | refine rn ?_ | (refine zb ?_; intro _ _) | (refine za ?_; intro _ _) | (refine zs ?_; intro _ _))
    refine TQ_ret1 Tryz.results66 (RV.tmp rfl) (fun w' hs => ⟨(), trivial, ?_, hs.sub su⟩)
    have : (∀ y ∈ [x.2], In y (wr (x.1 + 1)) 23040) ↔ okT l j x := ⟨fun h => ⟨by simpa using g1, by simpa using h⟩, fun h => by simpa using h.2⟩
    rw [decide_eq_decide.2 this]
  · repeat' (first | refine rn ?_ | (refine zb ?_; intro _ _) | (refine za ?_; intro _ _) | (refine zs ?_; intro _ _))
    refine TQ_ret1 Tryz.results66 (RV.tmp rfl) (fun w' hs => ⟨(), trivial, ?_, hs.sub su⟩)
    rw [decide_eq_false (fun h => g1 (by simpa using h.1))]
theorem c71 (x a : Sp) (b3 : Nat) (w : World) (h3 : Sl w 2 encSp (some ⟨b3, 0, none⟩) [a]) : Calls Tryz.prog 71 #[.agg (encSp x).toArray, .pointer (some ⟨b3, 0, none⟩)] w (RetV w (.bool (decide (a.1 < x.2)))) := by
  refine enter (args := [.agg (encSp x).toArray, .pointer (some ⟨b3, 0, none⟩)]) Tryz.func71 rfl Tryz.ntmps71 rfl (SH.refl _) ?_
  repeat' (first | refine rn ?_ | (refine zb ?_; intro _ _) | (refine za ?_; intro _ _) | (refine zs ?_; intro _ _))
  refine TL_load_el1 (i := 0) (o := 0) rfl rfl (fun w h => h.sl h3) rfl rfl ?_
  repeat' (first | refine rn ?_ | (refine zb ?_; intro _ _) | (refine za ?_; intro _ _) | (refine zs ?_; intro _ _))
  exact TQ_ret1 Tryz.results71 (RV.tmp rfl) (fun w' hs => ⟨rfl, hs.below⟩)
def firstO (l : List Sp) (a : Sp) : Nat := (max (fidx (fun x => decide (a.1 < x.2)) l) 0).toNat
def brkO (a x : Sp) : Prop := a.2 < x.1 ∨ x.2 ≤ a.1
def sureO (l : List Sp) (a : Sp) : Nat → Int
  | 0 => -1
  | j + 1 => if (l.getD (firstO l a + j) (0, 0)).1 ≤ a.1 ∧ a.2 < (l.getD (firstO l a + j) (0, 0)).2 then ((firstO l a + j : Nat) : Int) else sureO l a j
def mayO (l : List Sp) (a : Sp) (j : Nat) : List Int := (List.range j).map fun i => ((firstO l a + i : Nat) : Int)
theorem mayO_len (l : List Sp) (a : Sp) (j : Nat) : (mayO l a j).length = j := by simp [mayO]
theorem mayO_succ (l : List Sp) (a : Sp) (j : Nat) : mayO l a (j + 1) = mayO l a j ++ [((firstO l a + j : Nat) : Int)] := by simp [mayO, List.range_succ]
theorem firstO_le (l : List Sp) (a : Sp) : firstO l a ≤ l.length := by
  unfold firstO
  rcases fidx_spec (fun x : Sp => decide (a.1 < x.2)) l with ⟨h, _⟩ | ⟨i, x, h, hx, _, _⟩
  · rw [h]; exact Nat.zero_le _
  · have := (List.getElem?_eq_some_iff.1 hx).1
    rw [h]; omega
theorem c25 (l : List Sp) (ao : Option Addr) (c : Nat) (a : Sp) (h60 : l.length ≤ 60) (hc : l.length ≤ c) (hok : okTurns l) (ha : Ord a (-100000) 100000) (w : World) (hl : Sl w 2 encSp ao l) : Calls Tryz.prog 25 #[.slice ao l.length c, .agg (encSp a).toArray] w
    (RetP w.heap.size w (fun q : Nat × Option Addr × Nat × Hp => .tuple #[.slice q.2.1 q.1 q.2.2.1, .int .i64 (sureO l a q.1), .int .i64 0]) (fun q => q.2.2.2) (fun q => Row 3 1 encI q.2.1 q.2.2.1 q.2.2.2 (mayO l a q.1) ∧ firstO l a + q.1 ≤ l.length ∧ (∀ i x, i < q.1 → l[firstO l a + i]? = some x → ¬ brkO a x) ∧ (∀ x, l[firstO l a + q.1]? = some x → brkO a x))) := by
  refine enter (args := [.slice ao l.length c, .agg (encSp a).toArray]) Tryz.func25 rfl Tryz.ntmps25 rfl (SH.refl _) ?_
  repeat' (first | refine rn ?_ | (refine zb ?_; intro _ _) | (refine za ?_; intro _ _) | (refine zs ?_; intro _ _))
  rename_i b3 _ b7 _
  refine TL_gsplit_dec rfl rfl (fun g1 => absurd g1 (by omega)) (fun g1 => ?_)
  repeat' (first | refine rn ?_ | (refine zb ?_; intro _ _) | (refine za ?_; intro _ _) | (refine zs ?_; intro _ _))
  refine TL_call rfl rfl rfl _ _ _ (fun w hs => d68 (fun j => [(b7, .cells [.int .i64 (lastA l j)] 3), (b3, .cells (encSp a) 25)]) (fun j => decide (okT l j (l.getD j (0, 0)))) 66 [.pointer (some ⟨b7, 0, none⟩)] l ao c (by omega) (fun j w h => h.sl hl) (fun G j x hx w hs => ?_) w hs) ?_
  · have e : l.getD j (0, 0) = x := by rw [List.getD_eq_getElem?_getD, hx]; rfl
    rw [e]
    exact c66 l j x hx b7 _ w hs
  rintro j ⟨hj1, hj2, hj3⟩
  have hjl : j = l.length := by
    rcases Nat.lt_or_ge j l.length with h | h
    · have := hj3 h
      dsimp only at this
      have h2 := hok j _ (List.getElem?_eq_getElem h)
      rw [List.getD_eq_getElem?_getD, List.getElem?_eq_getElem h] at this
      simp [h2] at this
    · omega
  subst hjl
  clear hj1 hj2 hj3
  rw [decide_eq_true (show ¬ l.length < l.length by omega)]
  repeat' (first | refine rn ?_ | (refine zb ?_; intro _ _) | (refine za ?_; intro _ _) | (refine zs ?_; intro _ _))
  refine TL_callV rfl rfl rfl (fun w h => c69 a w) ?_
  rw [decide_eq_true ha]
  repeat' (first | refine rn ?_ | (refine zb ?_; intro _ _) | (refine za ?_; intro _ _) | (refine zs ?_; intro _ _))
  refine TL_callV rfl rfl rfl (fun w h => c70 (fun x => decide (a.1 < x.2)) 71 [.pointer (some ⟨b3, 0, none⟩)] l ao c (by unfold Small; omega) w (h.sl hl) (fun x _ w' hb => c71 x a b3 w' (Sl.of_blk (h.ext hb) mm (fun _ _ => rfl) ⟨[], rfl⟩))) ?_
  have ef : max (fidx (fun x : Sp => decide (a.1 < x.2)) l) 0 = (firstO l a : Int) := by unfold firstO; omega
  have hfl := firstO_le l a
  refine r1 ?_
  rw [ef]
  repeat' (first | refine rn ?_ | (refine zb ?_; intro _ _) | (refine za ?_; intro _ _) | (refine zs ?_; intro _ _))
  refine TL_sliceFrom (firstO l a) rfl rfl rfl rfl hfl ?_
  obtain ⟨F, hF⟩ : ∃ F, F = firstO l a := ⟨_, rfl⟩
  have hdl : (l.drop F).length = l.length - F := List.length_drop
  rw [← hF] at hfl ef ⊢
  repeat' (first | refine rn ?_ | (refine zb ?_; intro _ _) | (refine za ?_; intro _ _) | (refine zs ?_; intro _ _))
  refine TC_loop (σ := Nat × Option Addr × Nat × Hp) (fun q => F + q.1 ≤ l.length ∧ Row 3 1 encI q.2.1 q.2.2.1 q.2.2.2 (mayO l a q.1) ∧ ∀ i x, i < q.1 → l[F + i]? = some x → ¬ brkO a x) (fun q => [(3, .pointer (some ⟨b3, 0, none⟩)), (4, .slice q.2.1 q.1 q.2.2.1), (5, .int .i64 (sureO l a q.1)), (9, .int .i64 F), (31, .slice (if c = F then ao else ao.map (·.add (F * 2))) (l.length - F) (c - F)), (32, .int .i64 ((l.length - F : Nat) : Int)), (33, .int .i64 q.1)])
    (fun q => q.2.2.2 ++ [(b3, .cells (encSp a) 25)]) (fun q => l.length - q.1) (0, none, 0, []) ⟨by omega, Row.nil _ _ _, fun i x h => by omega⟩ sb (fun w h => h.sub su) (fun q hq => ?_)
  obtain ⟨j, so, sc, ob⟩ := q
  obtain ⟨hj, hrow, hnb⟩ := hq
  dsimp only at hj hrow hnb ⊢
  repeat' (first | refine rn ?_ | (refine zb ?_; intro _ _) | (refine za ?_; intro _ _) | (refine zs ?_; intro _ _))
  refine TC_cond_dec rfl (fun g2 => ?_) (fun g2 => ?_)
  · have hlt : j < (l.drop F).length := by omega
    obtain ⟨x, hx⟩ : ∃ x, l[F + j]? = some x := ⟨_, List.getElem?_eq_getElem (by omega)⟩
    have hx2 : (l.drop F)[j]? = some x := by rw [List.getElem?_drop]; exact hx
    have hxd : l.getD (F + j) (0, 0) = x := by rw [List.getD_eq_getElem?_getD, hx]; rfl
    repeat' (first | refine rn ?_ | (refine zb ?_; intro _ _) | (refine za ?_; intro _ _) | (refine zs ?_; intro _ _))
    refine TL_index j rfl rfl rfl (fun w h => (h.sl hl).drop F c hc) rfl hlt (by omega) ?_
    refine TL_load_eln (u := x) rfl rfl (fun w h => (h.sl hl).drop F c hc) hx2 rfl ?_
    repeat' (first | refine rn ?_ | (refine zb ?_; intro _ _) | (refine za ?_; intro _ _) | (refine zs ?_; intro _ _))
    refine TL_gsplit_dec rfl rfl (fun g3 => ?_) (fun g3 => ?_)
    · repeat' (first | refine rn ?_ | (refine zb ?_; intro _ _) | (refine za ?_; intro _ _) | (refine zs ?_; intro _ _))
      refine TQ_ret3 Tryz.results25 (RV.tmp rfl) (RV.tmp rfl) (RV.tmp rfl) (fun w' hs => ⟨(j, so, sc, ob), ⟨hrow, by dsimp only; omega, hnb, fun y hy => ?_⟩, rfl, hs.sub (List.Sublist.cons _ (List.sublist_append_left _ _))⟩)
      rw [hx] at hy; cases hy; exact .inl (by omega)
    repeat' (first | refine rn ?_ | (refine zb ?_; intro _ _) | (refine za ?_; intro _ _) | (refine zs ?_; intro _ _))
    refine TC_cond_dec rfl (fun g4 => ?_) (fun g4 => ?_)
    · repeat' (first | refine rn ?_ | (refine zb ?_; intro _ _) | (refine za ?_; intro _ _) | (refine zs ?_; intro _ _))
      refine TQ_ret3 Tryz.results25 (RV.tmp rfl) (RV.tmp rfl) (RV.tmp rfl) (fun w' hs => ⟨(j, so, sc, ob), ⟨hrow, by dsimp only; omega, hnb, fun y hy => ?_⟩, rfl, hs.sub (List.Sublist.cons _ (List.sublist_append_left _ _))⟩)
      rw [hx] at hy; cases hy; exact .inr (by omega)
    have hb : ¬ brkO a x := fun h => by unfold brkO at h; omega
    repeat' (first | refine rn ?_ | (refine zb ?_; intro _ _) | (refine za ?_; intro _ _) | (refine zs ?_; intro _ _))
    refine TL_append (l := mayO l a j) (l2 := [((F : Int) + j)]) (enc := encI) (G := _) rfl (by rfl) rfl rfl (mayO_len l a j).symm rfl rfl hrow (pm_cons (pm_cons pm_here)) (fun w h => Sl.of_blk h mm (fun _ _ => rfl) ⟨[], by rfl⟩) (fun u _ => rfl) (by simp only [List.length_singleton, mayO_len]; omega) (by simp only [List.length_singleton, maxLen, mayO_len]; omega) (fun so' sc' ob' hrow' => ?_)
    have e5 : mayO l a j ++ [((F : Int) + j)] = mayO l a (j + 1) := by rw [mayO_succ, hF]; congr 2
    rw [e5] at hrow' ⊢
    rw [mayO_len]
    have es : sureO l a (j + 1) = if x.1 ≤ a.1 ∧ a.2 < x.2 then (F : Int) + j else sureO l a j := by
      show (if _ then _ else _) = _
      rw [← hF, hxd]; congr 1
    repeat' (first | refine rn ?_ | (refine zb ?_; intro _ _) | (refine za ?_; intro _ _) | (refine zs ?_; intro _ _))
    refine TL_gsplit_dec rfl rfl (fun g5 => ?_) (fun g5 => ?_)
    · repeat' (first | refine rn ?_ | (refine zb ?_; intro _ _) | (refine za ?_; intro _ _) | (refine zs ?_; intro _ _))
      refine TC_cond_dec rfl (fun g6 => ?_) (fun g6 => ?_)
      · have e6 : (F : Int) + j = sureO l a (j + 1) := by rw [es, if_pos ⟨g5, g6⟩]
        repeat' (first | refine rn ?_ | (refine zb ?_; intro _ _) | (refine za ?_; intro _ _) | (refine zs ?_; intro _ _))
        rw [e6]
        refine TQ_round (j + 1, so', sc', ob') ⟨by omega, hrow', fun i y hi hy => ?_⟩ (by dsimp only; omega) sb (fun w h => h.sub (List.Sublist.append_left su _))
        rcases Nat.lt_or_ge i j with h | h
        · exact hnb i y h hy
        · have : i = j := by omega
          subst this; rw [hx] at hy; cases hy
          exact hb
      · have e6 : sureO l a j = sureO l a (j + 1) := by rw [es, if_neg (fun h => g6 h.2)]
        rw [e6]
        repeat' (first | refine rn ?_ | (refine zb ?_; intro _ _) | (refine za ?_; intro _ _) | (refine zs ?_; intro _ _))
        refine TQ_round (j + 1, so', sc', ob') ⟨by omega, hrow', fun i y hi hy => ?_⟩ (by dsimp only; omega) sb (fun w h => h.sub (List.Sublist.append_left su _))
        rcases Nat.lt_or_ge i j with h | h
        · exact hnb i y h hy
        · have : i = j := by omega
          subst this; rw [hx] at hy; cases hy
          exact hb
    · have e6 : sureO l a j = sureO l a (j + 1) := by rw [es, if_neg (fun h => g5 h.1)]
      rw [e6]
      repeat' (first | refine rn ?_ | (refine zb ?_; intro _ _) | (refine za ?_; intro _ _) | (refine zs ?_; intro _ _))
      refine TQ_round (j + 1, so', sc', ob') ⟨by omega, hrow', fun i y hi hy => ?_⟩ (by dsimp only; omega) sb (fun w h => h.sub (List.Sublist.append_left su _))
      rcases Nat.lt_or_ge i j with h | h
      · exact hnb i y h hy
      · have : i = j := by omega
        subst this; rw [hx] at hy; cases hy
        exact hb
  · repeat' (first | refine rn ?_ | (refine zb ?_; intro _ _) | (refine za ?_; intro _ _) | (refine zs ?_; intro _ _))
    refine TQ_ret3 Tryz.results25 (RV.tmp rfl) (RV.tmp rfl) (RV.tmp rfl) (fun w' hs => ⟨(j, so, sc, ob), ⟨hrow, by dsimp only; omega, hnb, fun y hy => ?_⟩, rfl, hs.sub (List.sublist_append_left _ _)⟩)
    have := (List.getElem?_eq_some_iff.1 hy).1
    omega
end Go.Proofs.YtkpkebpofpcmaaaGreatDoor

namespace Go.Proofs.YtkpkebpofpcmaaaGreatDoor
open Go Go.Eng Go.RowKit Go.Proofs
set_option maxHeartbeats 2000000
set_option maxRecDepth 10000
attribute [local irreducible] TL TC TQ

def greatC (k : Ck) : Prop := 30 < k.marks.length ∨ 20 < k.stars.length
instance (k : Ck) : Decidable (greatC k) := inferInstanceAs (Decidable (_ ∨ _))
def greatN (l : List Cg) : Prop := 30 < l.length ∨ ∃ c ∈ l, 16 < c.told.length
instance (l : List Cg) : Decidable (greatN l) := inferInstanceAs (Decidable (_ ∨ _))
def pickR (s : Sp) (n : Int) : Int := s.1 + n % (s.2 - s.1 + 1)
theorem u32_wrap {n : Int} (h : 0 ≤ n ∧ n ≤ 4294967295) : IntKind.i64.wrap n = n := wrap_i64_of (by omega)
theorem c30 (a b : Int) (w : World) : Calls Tryz.prog 30 #[.int .i64 a, .int .i64 b] w (RetV w (.agg (encSp (a, b)).toArray)) := by
  refine enter (args := [.int .i64 a, .int .i64 b]) Tryz.func30 rfl Tryz.ntmps30 rfl (SH.refl _) ?_
  repeat' (first | refine rn ?_ | (refine zb ?_; intro _ _) | (refine za ?_; intro _ _) | (refine zs ?_; intro _ _))
  exact TQ_ret1 Tryz.results30 (RV.celln rfl mm (by rfl)) (fun w' hs => ⟨rfl, hs.below⟩)
end Go.Proofs.YtkpkebpofpcmaaaGreatDoor
