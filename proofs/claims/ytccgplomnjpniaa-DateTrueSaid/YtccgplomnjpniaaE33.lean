/- The walk of the statement DateBetter. -/
import Derived.Test.YtccgplomnjpniaaE30
import Derived.Test.YtccgplomnjpniaaEngD
namespace Go.Proofs.Ytccgplomnjpniaa
open Go Go.Eng Go.RowKit Go.Proofs
set_option maxHeartbeats 4000000
set_option maxRecDepth 10000
attribute [local irreducible] TL TC TQ

/-- The first n elements have turned. -/
def mapTo {α : Type} (f : Nat → α → α) (l : List α) (n : Nat) : List α := l.mapIdx (fun i x => if i < n then f i x else x)
theorem mapTo_len {α : Type} (f : Nat → α → α) (l : List α) (n : Nat) : (mapTo f l n).length = l.length := by simp [mapTo]
theorem mapTo_get {α : Type} (f : Nat → α → α) (l : List α) (n i : Nat) : (mapTo f l n)[i]? = (l[i]?).map (fun x => if i < n then f i x else x) := by simp [mapTo]
theorem mapTo_zero {α : Type} (f : Nat → α → α) (l : List α) : mapTo f l 0 = l := by
  apply List.ext_getElem?; intro i; rw [mapTo_get]; simp
theorem mapTo_all {α : Type} (f : Nat → α → α) (l : List α) {n : Nat} (h : l.length ≤ n) : mapTo f l n = l.mapIdx f := by
  apply List.ext_getElem?; intro i; rw [mapTo_get, List.getElem?_mapIdx]
  cases hi : l[i]? with
  | none => rfl
  | some x =>
    have := (List.getElem?_eq_some_iff.1 hi).1
    simp only [Option.map_some]; rw [if_pos (by omega)]
theorem mapTo_set {α : Type} (f : Nat → α → α) (l : List α) {n : Nat} {u : α} (h : l[n]? = some u) : (mapTo f l n).set n (f n u) = mapTo f l (n + 1) := by
  have hlt := (List.getElem?_eq_some_iff.1 h).1
  apply List.ext_getElem?; intro i
  rw [List.getElem?_set, mapTo_get, mapTo_get]
  by_cases hi : n = i
  · subst hi; rw [if_pos rfl, mapTo_len, if_pos hlt, h]; simp
  · rw [if_neg hi]
    cases l[i]? with
    | none => rfl
    | some x =>
      simp only [Option.map_some]
      by_cases h2 : i < n
      · rw [if_pos h2, if_pos (by omega)]
      · rw [if_neg h2, if_neg (by omega)]
def plusS (s : Sp) (m : Int) : Sp := (s.1 + m % (1000000 - s.2 + 1), s.2 + m % (1000000 - s.2 + 1))
def knownS (by_ : List U32) (i : Nat) (x : Sn) : Sn := (partR x.1 by_ (10 + 2 * (i : Int)), x.2)
def richS (m : Int) (_ : Nat) (x : Sn) : Sn := (plusS x.1 m, x.2)
def knownR (R : Rd) (by_ : List U32) : Rd := ⟨partR R.fod by_ 0, partR R.dung by_ 2, partR R.eats by_ 4, partR R.gives by_ 6, partR R.boost by_ 8, R.seas.mapIdx (knownS by_)⟩
def plusR (R : Rd) (m d : Int) : Rd := { R with dung := plusS R.dung d, seas := R.seas.mapIdx (richS m) }
theorem plusS_rg {s : Sp} {m : Int} (hs : Ord s 0 1000000) (hm : 0 ≤ m) : Ord (plusS s m) 0 1000000 ∧ s.1 ≤ (plusS s m).1 ∧ (0 ≤ m % (1000000 - s.2 + 1) ∧ m % (1000000 - s.2 + 1) ≤ 1000000 - s.2) := by
  simp only [Ord] at hs
  have h1 := Int.emod_nonneg m (show 1000000 - s.2 + 1 ≠ 0 by omega)
  have h2 := Int.emod_lt_of_pos m (show 0 < 1000000 - s.2 + 1 by omega)
  simp only [Ord, plusS]
  omega
theorem part_ord {s : Sp} {n : Int} (hs : Ord s 0 n) (l : List U32) (i : Int) : Ord (partR s l i) 0 n ∧ Ins (partR s l i) s := by
  simp only [Ord] at hs
  have := part_rg hs.2.1 l i
  simp only [Ord, Ins]; omega
theorem knownR_ok {R : Rd} (hR : OkRd R) (by_ : List U32) : OkRd (knownR R by_) ∧ Knows R (knownR R by_) := by
  obtain ⟨h1, h2, h3, h4, h5, h6, h7⟩ := hR
  refine ⟨⟨(part_ord h1 _ _).1, (part_ord h2 _ _).1, (part_ord h3 _ _).1, (part_ord h4 _ _).1, (part_ord h5 _ _).1, by simp only [knownR, List.length_mapIdx]; exact h6, fun x hx => ?_⟩,
    (part_ord h1 _ _).2, (part_ord h2 _ _).2, (part_ord h3 _ _).2, (part_ord h4 _ _).2, (part_ord h5 _ _).2, (part_ord h3 _ _).1.2.1, by simp [knownR], fun i x y hx hy => ?_⟩
  · obtain ⟨i, hi⟩ := List.getElem?_of_mem hx
    simp only [knownR, List.getElem?_mapIdx, Option.map_eq_some_iff] at hi
    obtain ⟨y, hy, rfl⟩ := hi
    have := h7 y (List.mem_of_getElem? hy)
    exact ⟨(part_ord this.1 _ _).1, this.2⟩
  · simp only [knownR, List.getElem?_mapIdx, hx, Option.map_some, Option.some.injEq] at hy
    subst hy
    have := h7 x (List.mem_of_getElem? hx)
    exact ⟨(part_ord this.1 _ _).2, rfl, this.2.1⟩
theorem plusR_ok {R : Rd} (hR : OkRd R) {m d : Int} (hm : 0 ≤ m) (hd : 0 ≤ d) : OkRd (plusR R m d) ∧ Wid R (plusR R m d) := by
  obtain ⟨h1, h2, h3, h4, h5, h6, h7⟩ := hR
  refine ⟨⟨h1, (plusS_rg h2 hd).1, h3, h4, h5, by simp only [plusR, List.length_mapIdx]; exact h6, fun x hx => ?_⟩,
    Int.le_refl _, (plusS_rg h2 hd).2.1, Int.le_refl _, Int.le_refl _, Int.le_refl _, by simp [plusR], fun i x y hx hy => ?_⟩
  · obtain ⟨i, hi⟩ := List.getElem?_of_mem hx
    simp only [plusR, List.getElem?_mapIdx, Option.map_eq_some_iff] at hi
    obtain ⟨y, hy, rfl⟩ := hi
    have := h7 y (List.mem_of_getElem? hy)
    exact ⟨(plusS_rg this.1 hm).1, this.2⟩
  · simp only [plusR, List.getElem?_mapIdx, hx, Option.map_some, Option.some.injEq] at hy
    subst hy
    have := h7 x (List.mem_of_getElem? hx)
    exact ⟨(plusS_rg this.1 hm).2.1, rfl, this.2.1⟩

theorem c14 (R : Rd) (ao : Option Addr) (c : Nat) (g : Int) (by_ : List U32) (bo : Option Addr) (bc : Nat) (m dd : Int) (hm : 0 ≤ m ∧ m ≤ 65535) (hdd : 0 ≤ dd ∧ dd ≤ 65535) (hl : R.seas.length ≤ 9223372036854775807) (hlb : by_.length ≤ 9223372036854775807) (w : World) (ha : Sl w 3 encSn ao R.seas) (hb : Sl w 1 encU bo by_) :
    Calls Try.prog 14 #[.agg (encRd R ao c).toArray, .int .i64 g, .slice bo by_.length bc, .int .u16 m, .int .u16 dd] w (RetV w (.bool true)) := by
  refine enter (args := [.agg (encRd R ao c).toArray, .int .i64 g, .slice bo by_.length bc, .int .u16 m, .int .u16 dd]) Try.func14 rfl Try.ntmps14 rfl (SH.refl _) ?_
  repeat' (first | refine rn ?_ | (apply TL_box; exact rfl; exact rfl; exact rfl; intro _ _) | (apply TL_alloc; exact rfl; intro _ _) | (apply TL_buildSlice; exact rfl; exact rfl; exact rfl; exact rfl; exact rfl; intro _ _))
  refine TL_callV rfl rfl rfl (fun w _ => c31 w) ?_
  repeat' (first | refine rn ?_ | (apply TL_box; exact rfl; exact rfl; exact rfl; intro _ _) | (apply TL_alloc; exact rfl; intro _ _) | (apply TL_buildSlice; exact rfl; exact rfl; exact rfl; exact rfl; exact rfl; intro _ _))
  refine TL_callV rfl rfl rfl (fun w h => c44w R ao c hl w (h.sl ha)) ?_
  repeat' (first | refine rn ?_ | (apply TL_box; exact rfl; exact rfl; exact rfl; intro _ _) | (apply TL_alloc; exact rfl; intro _ _) | (apply TL_buildSlice; exact rfl; exact rfl; exact rfl; exact rfl; exact rfl; intro _ _))
  refine TL_gsplit_dec rfl rfl (fun g1 => ?_) (fun g1 => ?_)
  · repeat' (first | refine rn ?_ | (apply TL_box; exact rfl; exact rfl; exact rfl; intro _ _) | (apply TL_alloc; exact rfl; intro _ _) | (apply TL_buildSlice; exact rfl; exact rfl; exact rfl; exact rfl; exact rfl; intro _ _))
    exact TQ_ret1 Try.results14 (RV.tmp rfl) (fun w' hs => ⟨rfl, hs.below⟩)
  repeat' (first | refine rn ?_ | (apply TL_box; exact rfl; exact rfl; exact rfl; intro _ _) | (apply TL_alloc; exact rfl; intro _ _) | (apply TL_buildSlice; exact rfl; exact rfl; exact rfl; exact rfl; exact rfl; intro _ _))
  refine TL_gsplit_dec rfl rfl (fun g2 => ?_) (fun g2 => ?_)
  · repeat' (first | refine rn ?_ | (apply TL_box; exact rfl; exact rfl; exact rfl; intro _ _) | (apply TL_alloc; exact rfl; intro _ _) | (apply TL_buildSlice; exact rfl; exact rfl; exact rfl; exact rfl; exact rfl; intro _ _))
    exact TQ_ret1 Try.results14 (RV.tmp rfl) (fun w' hs => ⟨rfl, hs.below⟩)
  repeat' (first | refine rn ?_ | (apply TL_box; exact rfl; exact rfl; exact rfl; intro _ _) | (apply TL_alloc; exact rfl; intro _ _) | (apply TL_buildSlice; exact rfl; exact rfl; exact rfl; exact rfl; exact rfl; intro _ _))
  refine TL_gsplit_dec rfl rfl (fun g3 => ?_) (fun g3 => ?_)
  · repeat' (first | refine rn ?_ | (apply TL_box; exact rfl; exact rfl; exact rfl; intro _ _) | (apply TL_alloc; exact rfl; intro _ _) | (apply TL_buildSlice; exact rfl; exact rfl; exact rfl; exact rfl; exact rfl; intro _ _))
    exact TQ_ret1 Try.results14 (RV.tmp rfl) (fun w' hs => ⟨rfl, hs.below⟩)
  repeat' (first | refine rn ?_ | (apply TL_box; exact rfl; exact rfl; exact rfl; intro _ _) | (apply TL_alloc; exact rfl; intro _ _) | (apply TL_buildSlice; exact rfl; exact rfl; exact rfl; exact rfl; exact rfl; intro _ _))
  have hR : OkRd R := Classical.not_not.1 g1
  have hR' := hR
  obtain ⟨u1, u2, u3, u4, u5, u6, u7⟩ := hR'
  have hlen : R.seas.length ≤ 4611686018427387904 := by omega
  rename_i b5 _
  refine TC_join (σ := Nat × Nat) (fun _ => True) (fun q => [(1, .int .i64 g), (2, .slice bo by_.length bc), (3, .int .u16 m), (4, .int .u16 dd), (5, .pointer (some ⟨b5, 0, none⟩)), (11, .bool true), (12, .pointer (some ⟨q.1, 0, none⟩)), (13, .pointer (some ⟨q.2, 0, none⟩))])
    (fun q => [(q.1, .cells (encRd R ao c) 26), (q.2, .cells (encRd R ao c) 26), (b5, .cells (encRd R ao c) 26)]) ?_ (fun q _ => ?_)
  · refine TC_any Try.mixed ?_
    refine TA_stepL [0, 1, 2, 3] (by kernel_rfl) rfl ⟨?_, ?_, ?_, ?_, trivial⟩
    · change TL _ _ _ _ _ _ _ _ _ _ _
      refine r1 ?_; apply TL_nil; apply TQ_any
      refine TA_stepL [1, 2, 3] (by kernel_rfl) rfl ⟨?_, ?_, ?_, trivial⟩
      · change TL _ _ _ _ _ _ _ _ _ _ _
        refine r1 ?_; apply TL_nil; apply TQ_any
        refine TA_stepL [2, 3] (by kernel_rfl) rfl ⟨?_, ?_, trivial⟩
        · change TL _ _ _ _ _ _ _ _ _ _ _
          (apply TL_alloc; exact rfl; intro b12 _); apply TL_nil; apply TQ_any
          refine TA_stepL [3] (by kernel_rfl) rfl ⟨?_, trivial⟩
          change TL _ _ _ _ _ _ _ _ _ _ _
          (apply TL_alloc; exact rfl; intro b13 _); apply TL_nil; apply TQ_any
          refine TA_stepL [4] (by kernel_rfl) rfl ⟨?_, trivial⟩
          change TL _ _ _ _ _ _ _ _ _ _ _
          refine r1 ?_; apply TL_nil; apply TQ_any
          refine TA_stepL [5] (by kernel_rfl) rfl ⟨?_, trivial⟩
          change TL _ _ _ _ _ _ _ _ _ _ _
          refine r1 ?_; apply TL_nil; apply TQ_any
          refine TA_done (by kernel_rfl) ?_
          (first | exact TQ_mid (b12, b13) trivial sb (fun w h => h) | exact TQ_mid (b12, b13) trivial sb (fun w h => h.perm (List.Perm.swap _ _ _)))
        · change TL _ _ _ _ _ _ _ _ _ _ _
          (apply TL_alloc; exact rfl; intro b13 _); apply TL_nil; apply TQ_any
          refine TA_stepL [2] (by kernel_rfl) rfl ⟨?_, trivial⟩
          change TL _ _ _ _ _ _ _ _ _ _ _
          (apply TL_alloc; exact rfl; intro b12 _); apply TL_nil; apply TQ_any
          refine TA_stepL [4] (by kernel_rfl) rfl ⟨?_, trivial⟩
          change TL _ _ _ _ _ _ _ _ _ _ _
          refine r1 ?_; apply TL_nil; apply TQ_any
          refine TA_stepL [5] (by kernel_rfl) rfl ⟨?_, trivial⟩
          change TL _ _ _ _ _ _ _ _ _ _ _
          refine r1 ?_; apply TL_nil; apply TQ_any
          refine TA_done (by kernel_rfl) ?_
          (first | exact TQ_mid (b12, b13) trivial sb (fun w h => h) | exact TQ_mid (b12, b13) trivial sb (fun w h => h.perm (List.Perm.swap _ _ _)))
      · change TL _ _ _ _ _ _ _ _ _ _ _
        (apply TL_alloc; exact rfl; intro b12 _); apply TL_nil; apply TQ_any
        refine TA_stepL [1, 3] (by kernel_rfl) rfl ⟨?_, ?_, trivial⟩
        · change TL _ _ _ _ _ _ _ _ _ _ _
          refine r1 ?_; apply TL_nil; apply TQ_any
          refine TA_stepL [3] (by kernel_rfl) rfl ⟨?_, trivial⟩
          change TL _ _ _ _ _ _ _ _ _ _ _
          (apply TL_alloc; exact rfl; intro b13 _); apply TL_nil; apply TQ_any
          refine TA_stepL [4] (by kernel_rfl) rfl ⟨?_, trivial⟩
          change TL _ _ _ _ _ _ _ _ _ _ _
          refine r1 ?_; apply TL_nil; apply TQ_any
          refine TA_stepL [5] (by kernel_rfl) rfl ⟨?_, trivial⟩
          change TL _ _ _ _ _ _ _ _ _ _ _
          refine r1 ?_; apply TL_nil; apply TQ_any
          refine TA_done (by kernel_rfl) ?_
          (first | exact TQ_mid (b12, b13) trivial sb (fun w h => h) | exact TQ_mid (b12, b13) trivial sb (fun w h => h.perm (List.Perm.swap _ _ _)))
        · change TL _ _ _ _ _ _ _ _ _ _ _
          (apply TL_alloc; exact rfl; intro b13 _); apply TL_nil; apply TQ_any
          refine TA_stepL [1, 4] (by kernel_rfl) rfl ⟨?_, ?_, trivial⟩
          · change TL _ _ _ _ _ _ _ _ _ _ _
            refine r1 ?_; apply TL_nil; apply TQ_any
            refine TA_stepL [4] (by kernel_rfl) rfl ⟨?_, trivial⟩
            change TL _ _ _ _ _ _ _ _ _ _ _
            refine r1 ?_; apply TL_nil; apply TQ_any
            refine TA_stepL [5] (by kernel_rfl) rfl ⟨?_, trivial⟩
            change TL _ _ _ _ _ _ _ _ _ _ _
            refine r1 ?_; apply TL_nil; apply TQ_any
            refine TA_done (by kernel_rfl) ?_
            (first | exact TQ_mid (b12, b13) trivial sb (fun w h => h) | exact TQ_mid (b12, b13) trivial sb (fun w h => h.perm (List.Perm.swap _ _ _)))
          · change TL _ _ _ _ _ _ _ _ _ _ _
            refine r1 ?_; apply TL_nil; apply TQ_any
            refine TA_stepL [1] (by kernel_rfl) rfl ⟨?_, trivial⟩
            change TL _ _ _ _ _ _ _ _ _ _ _
            refine r1 ?_; apply TL_nil; apply TQ_any
            refine TA_stepL [5] (by kernel_rfl) rfl ⟨?_, trivial⟩
            change TL _ _ _ _ _ _ _ _ _ _ _
            refine r1 ?_; apply TL_nil; apply TQ_any
            refine TA_done (by kernel_rfl) ?_
            (first | exact TQ_mid (b12, b13) trivial sb (fun w h => h) | exact TQ_mid (b12, b13) trivial sb (fun w h => h.perm (List.Perm.swap _ _ _)))
      · change TL _ _ _ _ _ _ _ _ _ _ _
        (apply TL_alloc; exact rfl; intro b13 _); apply TL_nil; apply TQ_any
        refine TA_stepL [1, 2] (by kernel_rfl) rfl ⟨?_, ?_, trivial⟩
        · change TL _ _ _ _ _ _ _ _ _ _ _
          refine r1 ?_; apply TL_nil; apply TQ_any
          refine TA_stepL [2] (by kernel_rfl) rfl ⟨?_, trivial⟩
          change TL _ _ _ _ _ _ _ _ _ _ _
          (apply TL_alloc; exact rfl; intro b12 _); apply TL_nil; apply TQ_any
          refine TA_stepL [4] (by kernel_rfl) rfl ⟨?_, trivial⟩
          change TL _ _ _ _ _ _ _ _ _ _ _
          refine r1 ?_; apply TL_nil; apply TQ_any
          refine TA_stepL [5] (by kernel_rfl) rfl ⟨?_, trivial⟩
          change TL _ _ _ _ _ _ _ _ _ _ _
          refine r1 ?_; apply TL_nil; apply TQ_any
          refine TA_done (by kernel_rfl) ?_
          (first | exact TQ_mid (b12, b13) trivial sb (fun w h => h) | exact TQ_mid (b12, b13) trivial sb (fun w h => h.perm (List.Perm.swap _ _ _)))
        · change TL _ _ _ _ _ _ _ _ _ _ _
          (apply TL_alloc; exact rfl; intro b12 _); apply TL_nil; apply TQ_any
          refine TA_stepL [1, 4] (by kernel_rfl) rfl ⟨?_, ?_, trivial⟩
          · change TL _ _ _ _ _ _ _ _ _ _ _
            refine r1 ?_; apply TL_nil; apply TQ_any
            refine TA_stepL [4] (by kernel_rfl) rfl ⟨?_, trivial⟩
            change TL _ _ _ _ _ _ _ _ _ _ _
            refine r1 ?_; apply TL_nil; apply TQ_any
            refine TA_stepL [5] (by kernel_rfl) rfl ⟨?_, trivial⟩
            change TL _ _ _ _ _ _ _ _ _ _ _
            refine r1 ?_; apply TL_nil; apply TQ_any
            refine TA_done (by kernel_rfl) ?_
            (first | exact TQ_mid (b12, b13) trivial sb (fun w h => h) | exact TQ_mid (b12, b13) trivial sb (fun w h => h.perm (List.Perm.swap _ _ _)))
          · change TL _ _ _ _ _ _ _ _ _ _ _
            refine r1 ?_; apply TL_nil; apply TQ_any
            refine TA_stepL [1] (by kernel_rfl) rfl ⟨?_, trivial⟩
            change TL _ _ _ _ _ _ _ _ _ _ _
            refine r1 ?_; apply TL_nil; apply TQ_any
            refine TA_stepL [5] (by kernel_rfl) rfl ⟨?_, trivial⟩
            change TL _ _ _ _ _ _ _ _ _ _ _
            refine r1 ?_; apply TL_nil; apply TQ_any
            refine TA_done (by kernel_rfl) ?_
            (first | exact TQ_mid (b12, b13) trivial sb (fun w h => h) | exact TQ_mid (b12, b13) trivial sb (fun w h => h.perm (List.Perm.swap _ _ _)))
    · change TL _ _ _ _ _ _ _ _ _ _ _
      refine r1 ?_; apply TL_nil; apply TQ_any
      refine TA_stepL [0, 2, 3] (by kernel_rfl) rfl ⟨?_, ?_, ?_, trivial⟩
      · change TL _ _ _ _ _ _ _ _ _ _ _
        refine r1 ?_; apply TL_nil; apply TQ_any
        refine TA_stepL [2, 3] (by kernel_rfl) rfl ⟨?_, ?_, trivial⟩
        · change TL _ _ _ _ _ _ _ _ _ _ _
          (apply TL_alloc; exact rfl; intro b12 _); apply TL_nil; apply TQ_any
          refine TA_stepL [3] (by kernel_rfl) rfl ⟨?_, trivial⟩
          change TL _ _ _ _ _ _ _ _ _ _ _
          (apply TL_alloc; exact rfl; intro b13 _); apply TL_nil; apply TQ_any
          refine TA_stepL [4] (by kernel_rfl) rfl ⟨?_, trivial⟩
          change TL _ _ _ _ _ _ _ _ _ _ _
          refine r1 ?_; apply TL_nil; apply TQ_any
          refine TA_stepL [5] (by kernel_rfl) rfl ⟨?_, trivial⟩
          change TL _ _ _ _ _ _ _ _ _ _ _
          refine r1 ?_; apply TL_nil; apply TQ_any
          refine TA_done (by kernel_rfl) ?_
          (first | exact TQ_mid (b12, b13) trivial sb (fun w h => h) | exact TQ_mid (b12, b13) trivial sb (fun w h => h.perm (List.Perm.swap _ _ _)))
        · change TL _ _ _ _ _ _ _ _ _ _ _
          (apply TL_alloc; exact rfl; intro b13 _); apply TL_nil; apply TQ_any
          refine TA_stepL [2] (by kernel_rfl) rfl ⟨?_, trivial⟩
          change TL _ _ _ _ _ _ _ _ _ _ _
          (apply TL_alloc; exact rfl; intro b12 _); apply TL_nil; apply TQ_any
          refine TA_stepL [4] (by kernel_rfl) rfl ⟨?_, trivial⟩
          change TL _ _ _ _ _ _ _ _ _ _ _
          refine r1 ?_; apply TL_nil; apply TQ_any
          refine TA_stepL [5] (by kernel_rfl) rfl ⟨?_, trivial⟩
          change TL _ _ _ _ _ _ _ _ _ _ _
          refine r1 ?_; apply TL_nil; apply TQ_any
          refine TA_done (by kernel_rfl) ?_
          (first | exact TQ_mid (b12, b13) trivial sb (fun w h => h) | exact TQ_mid (b12, b13) trivial sb (fun w h => h.perm (List.Perm.swap _ _ _)))
      · change TL _ _ _ _ _ _ _ _ _ _ _
        (apply TL_alloc; exact rfl; intro b12 _); apply TL_nil; apply TQ_any
        refine TA_stepL [0, 3] (by kernel_rfl) rfl ⟨?_, ?_, trivial⟩
        · change TL _ _ _ _ _ _ _ _ _ _ _
          refine r1 ?_; apply TL_nil; apply TQ_any
          refine TA_stepL [3] (by kernel_rfl) rfl ⟨?_, trivial⟩
          change TL _ _ _ _ _ _ _ _ _ _ _
          (apply TL_alloc; exact rfl; intro b13 _); apply TL_nil; apply TQ_any
          refine TA_stepL [4] (by kernel_rfl) rfl ⟨?_, trivial⟩
          change TL _ _ _ _ _ _ _ _ _ _ _
          refine r1 ?_; apply TL_nil; apply TQ_any
          refine TA_stepL [5] (by kernel_rfl) rfl ⟨?_, trivial⟩
          change TL _ _ _ _ _ _ _ _ _ _ _
          refine r1 ?_; apply TL_nil; apply TQ_any
          refine TA_done (by kernel_rfl) ?_
          (first | exact TQ_mid (b12, b13) trivial sb (fun w h => h) | exact TQ_mid (b12, b13) trivial sb (fun w h => h.perm (List.Perm.swap _ _ _)))
        · change TL _ _ _ _ _ _ _ _ _ _ _
          (apply TL_alloc; exact rfl; intro b13 _); apply TL_nil; apply TQ_any
          refine TA_stepL [0] (by kernel_rfl) rfl ⟨?_, trivial⟩
          change TL _ _ _ _ _ _ _ _ _ _ _
          refine r1 ?_; apply TL_nil; apply TQ_any
          refine TA_stepL [4] (by kernel_rfl) rfl ⟨?_, trivial⟩
          change TL _ _ _ _ _ _ _ _ _ _ _
          refine r1 ?_; apply TL_nil; apply TQ_any
          refine TA_stepL [5] (by kernel_rfl) rfl ⟨?_, trivial⟩
          change TL _ _ _ _ _ _ _ _ _ _ _
          refine r1 ?_; apply TL_nil; apply TQ_any
          refine TA_done (by kernel_rfl) ?_
          (first | exact TQ_mid (b12, b13) trivial sb (fun w h => h) | exact TQ_mid (b12, b13) trivial sb (fun w h => h.perm (List.Perm.swap _ _ _)))
      · change TL _ _ _ _ _ _ _ _ _ _ _
        (apply TL_alloc; exact rfl; intro b13 _); apply TL_nil; apply TQ_any
        refine TA_stepL [0, 2] (by kernel_rfl) rfl ⟨?_, ?_, trivial⟩
        · change TL _ _ _ _ _ _ _ _ _ _ _
          refine r1 ?_; apply TL_nil; apply TQ_any
          refine TA_stepL [2] (by kernel_rfl) rfl ⟨?_, trivial⟩
          change TL _ _ _ _ _ _ _ _ _ _ _
          (apply TL_alloc; exact rfl; intro b12 _); apply TL_nil; apply TQ_any
          refine TA_stepL [4] (by kernel_rfl) rfl ⟨?_, trivial⟩
          change TL _ _ _ _ _ _ _ _ _ _ _
          refine r1 ?_; apply TL_nil; apply TQ_any
          refine TA_stepL [5] (by kernel_rfl) rfl ⟨?_, trivial⟩
          change TL _ _ _ _ _ _ _ _ _ _ _
          refine r1 ?_; apply TL_nil; apply TQ_any
          refine TA_done (by kernel_rfl) ?_
          (first | exact TQ_mid (b12, b13) trivial sb (fun w h => h) | exact TQ_mid (b12, b13) trivial sb (fun w h => h.perm (List.Perm.swap _ _ _)))
        · change TL _ _ _ _ _ _ _ _ _ _ _
          (apply TL_alloc; exact rfl; intro b12 _); apply TL_nil; apply TQ_any
          refine TA_stepL [0] (by kernel_rfl) rfl ⟨?_, trivial⟩
          change TL _ _ _ _ _ _ _ _ _ _ _
          refine r1 ?_; apply TL_nil; apply TQ_any
          refine TA_stepL [4] (by kernel_rfl) rfl ⟨?_, trivial⟩
          change TL _ _ _ _ _ _ _ _ _ _ _
          refine r1 ?_; apply TL_nil; apply TQ_any
          refine TA_stepL [5] (by kernel_rfl) rfl ⟨?_, trivial⟩
          change TL _ _ _ _ _ _ _ _ _ _ _
          refine r1 ?_; apply TL_nil; apply TQ_any
          refine TA_done (by kernel_rfl) ?_
          (first | exact TQ_mid (b12, b13) trivial sb (fun w h => h) | exact TQ_mid (b12, b13) trivial sb (fun w h => h.perm (List.Perm.swap _ _ _)))
    · change TL _ _ _ _ _ _ _ _ _ _ _
      (apply TL_alloc; exact rfl; intro b12 _); apply TL_nil; apply TQ_any
      refine TA_stepL [0, 1, 3] (by kernel_rfl) rfl ⟨?_, ?_, ?_, trivial⟩
      · change TL _ _ _ _ _ _ _ _ _ _ _
        refine r1 ?_; apply TL_nil; apply TQ_any
        refine TA_stepL [1, 3] (by kernel_rfl) rfl ⟨?_, ?_, trivial⟩
        · change TL _ _ _ _ _ _ _ _ _ _ _
          refine r1 ?_; apply TL_nil; apply TQ_any
          refine TA_stepL [3] (by kernel_rfl) rfl ⟨?_, trivial⟩
          change TL _ _ _ _ _ _ _ _ _ _ _
          (apply TL_alloc; exact rfl; intro b13 _); apply TL_nil; apply TQ_any
          refine TA_stepL [4] (by kernel_rfl) rfl ⟨?_, trivial⟩
          change TL _ _ _ _ _ _ _ _ _ _ _
          refine r1 ?_; apply TL_nil; apply TQ_any
          refine TA_stepL [5] (by kernel_rfl) rfl ⟨?_, trivial⟩
          change TL _ _ _ _ _ _ _ _ _ _ _
          refine r1 ?_; apply TL_nil; apply TQ_any
          refine TA_done (by kernel_rfl) ?_
          (first | exact TQ_mid (b12, b13) trivial sb (fun w h => h) | exact TQ_mid (b12, b13) trivial sb (fun w h => h.perm (List.Perm.swap _ _ _)))
        · change TL _ _ _ _ _ _ _ _ _ _ _
          (apply TL_alloc; exact rfl; intro b13 _); apply TL_nil; apply TQ_any
          refine TA_stepL [1, 4] (by kernel_rfl) rfl ⟨?_, ?_, trivial⟩
          · change TL _ _ _ _ _ _ _ _ _ _ _
            refine r1 ?_; apply TL_nil; apply TQ_any
            refine TA_stepL [4] (by kernel_rfl) rfl ⟨?_, trivial⟩
            change TL _ _ _ _ _ _ _ _ _ _ _
            refine r1 ?_; apply TL_nil; apply TQ_any
            refine TA_stepL [5] (by kernel_rfl) rfl ⟨?_, trivial⟩
            change TL _ _ _ _ _ _ _ _ _ _ _
            refine r1 ?_; apply TL_nil; apply TQ_any
            refine TA_done (by kernel_rfl) ?_
            (first | exact TQ_mid (b12, b13) trivial sb (fun w h => h) | exact TQ_mid (b12, b13) trivial sb (fun w h => h.perm (List.Perm.swap _ _ _)))
          · change TL _ _ _ _ _ _ _ _ _ _ _
            refine r1 ?_; apply TL_nil; apply TQ_any
            refine TA_stepL [1] (by kernel_rfl) rfl ⟨?_, trivial⟩
            change TL _ _ _ _ _ _ _ _ _ _ _
            refine r1 ?_; apply TL_nil; apply TQ_any
            refine TA_stepL [5] (by kernel_rfl) rfl ⟨?_, trivial⟩
            change TL _ _ _ _ _ _ _ _ _ _ _
            refine r1 ?_; apply TL_nil; apply TQ_any
            refine TA_done (by kernel_rfl) ?_
            (first | exact TQ_mid (b12, b13) trivial sb (fun w h => h) | exact TQ_mid (b12, b13) trivial sb (fun w h => h.perm (List.Perm.swap _ _ _)))
      · change TL _ _ _ _ _ _ _ _ _ _ _
        refine r1 ?_; apply TL_nil; apply TQ_any
        refine TA_stepL [0, 3] (by kernel_rfl) rfl ⟨?_, ?_, trivial⟩
        · change TL _ _ _ _ _ _ _ _ _ _ _
          refine r1 ?_; apply TL_nil; apply TQ_any
          refine TA_stepL [3] (by kernel_rfl) rfl ⟨?_, trivial⟩
          change TL _ _ _ _ _ _ _ _ _ _ _
          (apply TL_alloc; exact rfl; intro b13 _); apply TL_nil; apply TQ_any
          refine TA_stepL [4] (by kernel_rfl) rfl ⟨?_, trivial⟩
          change TL _ _ _ _ _ _ _ _ _ _ _
          refine r1 ?_; apply TL_nil; apply TQ_any
          refine TA_stepL [5] (by kernel_rfl) rfl ⟨?_, trivial⟩
          change TL _ _ _ _ _ _ _ _ _ _ _
          refine r1 ?_; apply TL_nil; apply TQ_any
          refine TA_done (by kernel_rfl) ?_
          (first | exact TQ_mid (b12, b13) trivial sb (fun w h => h) | exact TQ_mid (b12, b13) trivial sb (fun w h => h.perm (List.Perm.swap _ _ _)))
        · change TL _ _ _ _ _ _ _ _ _ _ _
          (apply TL_alloc; exact rfl; intro b13 _); apply TL_nil; apply TQ_any
          refine TA_stepL [0] (by kernel_rfl) rfl ⟨?_, trivial⟩
          change TL _ _ _ _ _ _ _ _ _ _ _
          refine r1 ?_; apply TL_nil; apply TQ_any
          refine TA_stepL [4] (by kernel_rfl) rfl ⟨?_, trivial⟩
          change TL _ _ _ _ _ _ _ _ _ _ _
          refine r1 ?_; apply TL_nil; apply TQ_any
          refine TA_stepL [5] (by kernel_rfl) rfl ⟨?_, trivial⟩
          change TL _ _ _ _ _ _ _ _ _ _ _
          refine r1 ?_; apply TL_nil; apply TQ_any
          refine TA_done (by kernel_rfl) ?_
          (first | exact TQ_mid (b12, b13) trivial sb (fun w h => h) | exact TQ_mid (b12, b13) trivial sb (fun w h => h.perm (List.Perm.swap _ _ _)))
      · change TL _ _ _ _ _ _ _ _ _ _ _
        (apply TL_alloc; exact rfl; intro b13 _); apply TL_nil; apply TQ_any
        refine TA_stepL [0, 1] (by kernel_rfl) rfl ⟨?_, ?_, trivial⟩
        · change TL _ _ _ _ _ _ _ _ _ _ _
          refine r1 ?_; apply TL_nil; apply TQ_any
          refine TA_stepL [1, 4] (by kernel_rfl) rfl ⟨?_, ?_, trivial⟩
          · change TL _ _ _ _ _ _ _ _ _ _ _
            refine r1 ?_; apply TL_nil; apply TQ_any
            refine TA_stepL [4] (by kernel_rfl) rfl ⟨?_, trivial⟩
            change TL _ _ _ _ _ _ _ _ _ _ _
            refine r1 ?_; apply TL_nil; apply TQ_any
            refine TA_stepL [5] (by kernel_rfl) rfl ⟨?_, trivial⟩
            change TL _ _ _ _ _ _ _ _ _ _ _
            refine r1 ?_; apply TL_nil; apply TQ_any
            refine TA_done (by kernel_rfl) ?_
            (first | exact TQ_mid (b12, b13) trivial sb (fun w h => h) | exact TQ_mid (b12, b13) trivial sb (fun w h => h.perm (List.Perm.swap _ _ _)))
          · change TL _ _ _ _ _ _ _ _ _ _ _
            refine r1 ?_; apply TL_nil; apply TQ_any
            refine TA_stepL [1] (by kernel_rfl) rfl ⟨?_, trivial⟩
            change TL _ _ _ _ _ _ _ _ _ _ _
            refine r1 ?_; apply TL_nil; apply TQ_any
            refine TA_stepL [5] (by kernel_rfl) rfl ⟨?_, trivial⟩
            change TL _ _ _ _ _ _ _ _ _ _ _
            refine r1 ?_; apply TL_nil; apply TQ_any
            refine TA_done (by kernel_rfl) ?_
            (first | exact TQ_mid (b12, b13) trivial sb (fun w h => h) | exact TQ_mid (b12, b13) trivial sb (fun w h => h.perm (List.Perm.swap _ _ _)))
        · change TL _ _ _ _ _ _ _ _ _ _ _
          refine r1 ?_; apply TL_nil; apply TQ_any
          refine TA_stepL [0] (by kernel_rfl) rfl ⟨?_, trivial⟩
          change TL _ _ _ _ _ _ _ _ _ _ _
          refine r1 ?_; apply TL_nil; apply TQ_any
          refine TA_stepL [4] (by kernel_rfl) rfl ⟨?_, trivial⟩
          change TL _ _ _ _ _ _ _ _ _ _ _
          refine r1 ?_; apply TL_nil; apply TQ_any
          refine TA_stepL [5] (by kernel_rfl) rfl ⟨?_, trivial⟩
          change TL _ _ _ _ _ _ _ _ _ _ _
          refine r1 ?_; apply TL_nil; apply TQ_any
          refine TA_done (by kernel_rfl) ?_
          (first | exact TQ_mid (b12, b13) trivial sb (fun w h => h) | exact TQ_mid (b12, b13) trivial sb (fun w h => h.perm (List.Perm.swap _ _ _)))
    · change TL _ _ _ _ _ _ _ _ _ _ _
      (apply TL_alloc; exact rfl; intro b13 _); apply TL_nil; apply TQ_any
      refine TA_stepL [0, 1, 2] (by kernel_rfl) rfl ⟨?_, ?_, ?_, trivial⟩
      · change TL _ _ _ _ _ _ _ _ _ _ _
        refine r1 ?_; apply TL_nil; apply TQ_any
        refine TA_stepL [1, 2] (by kernel_rfl) rfl ⟨?_, ?_, trivial⟩
        · change TL _ _ _ _ _ _ _ _ _ _ _
          refine r1 ?_; apply TL_nil; apply TQ_any
          refine TA_stepL [2] (by kernel_rfl) rfl ⟨?_, trivial⟩
          change TL _ _ _ _ _ _ _ _ _ _ _
          (apply TL_alloc; exact rfl; intro b12 _); apply TL_nil; apply TQ_any
          refine TA_stepL [4] (by kernel_rfl) rfl ⟨?_, trivial⟩
          change TL _ _ _ _ _ _ _ _ _ _ _
          refine r1 ?_; apply TL_nil; apply TQ_any
          refine TA_stepL [5] (by kernel_rfl) rfl ⟨?_, trivial⟩
          change TL _ _ _ _ _ _ _ _ _ _ _
          refine r1 ?_; apply TL_nil; apply TQ_any
          refine TA_done (by kernel_rfl) ?_
          (first | exact TQ_mid (b12, b13) trivial sb (fun w h => h) | exact TQ_mid (b12, b13) trivial sb (fun w h => h.perm (List.Perm.swap _ _ _)))
        · change TL _ _ _ _ _ _ _ _ _ _ _
          (apply TL_alloc; exact rfl; intro b12 _); apply TL_nil; apply TQ_any
          refine TA_stepL [1, 4] (by kernel_rfl) rfl ⟨?_, ?_, trivial⟩
          · change TL _ _ _ _ _ _ _ _ _ _ _
            refine r1 ?_; apply TL_nil; apply TQ_any
            refine TA_stepL [4] (by kernel_rfl) rfl ⟨?_, trivial⟩
            change TL _ _ _ _ _ _ _ _ _ _ _
            refine r1 ?_; apply TL_nil; apply TQ_any
            refine TA_stepL [5] (by kernel_rfl) rfl ⟨?_, trivial⟩
            change TL _ _ _ _ _ _ _ _ _ _ _
            refine r1 ?_; apply TL_nil; apply TQ_any
            refine TA_done (by kernel_rfl) ?_
            (first | exact TQ_mid (b12, b13) trivial sb (fun w h => h) | exact TQ_mid (b12, b13) trivial sb (fun w h => h.perm (List.Perm.swap _ _ _)))
          · change TL _ _ _ _ _ _ _ _ _ _ _
            refine r1 ?_; apply TL_nil; apply TQ_any
            refine TA_stepL [1] (by kernel_rfl) rfl ⟨?_, trivial⟩
            change TL _ _ _ _ _ _ _ _ _ _ _
            refine r1 ?_; apply TL_nil; apply TQ_any
            refine TA_stepL [5] (by kernel_rfl) rfl ⟨?_, trivial⟩
            change TL _ _ _ _ _ _ _ _ _ _ _
            refine r1 ?_; apply TL_nil; apply TQ_any
            refine TA_done (by kernel_rfl) ?_
            (first | exact TQ_mid (b12, b13) trivial sb (fun w h => h) | exact TQ_mid (b12, b13) trivial sb (fun w h => h.perm (List.Perm.swap _ _ _)))
      · change TL _ _ _ _ _ _ _ _ _ _ _
        refine r1 ?_; apply TL_nil; apply TQ_any
        refine TA_stepL [0, 2] (by kernel_rfl) rfl ⟨?_, ?_, trivial⟩
        · change TL _ _ _ _ _ _ _ _ _ _ _
          refine r1 ?_; apply TL_nil; apply TQ_any
          refine TA_stepL [2] (by kernel_rfl) rfl ⟨?_, trivial⟩
          change TL _ _ _ _ _ _ _ _ _ _ _
          (apply TL_alloc; exact rfl; intro b12 _); apply TL_nil; apply TQ_any
          refine TA_stepL [4] (by kernel_rfl) rfl ⟨?_, trivial⟩
          change TL _ _ _ _ _ _ _ _ _ _ _
          refine r1 ?_; apply TL_nil; apply TQ_any
          refine TA_stepL [5] (by kernel_rfl) rfl ⟨?_, trivial⟩
          change TL _ _ _ _ _ _ _ _ _ _ _
          refine r1 ?_; apply TL_nil; apply TQ_any
          refine TA_done (by kernel_rfl) ?_
          (first | exact TQ_mid (b12, b13) trivial sb (fun w h => h) | exact TQ_mid (b12, b13) trivial sb (fun w h => h.perm (List.Perm.swap _ _ _)))
        · change TL _ _ _ _ _ _ _ _ _ _ _
          (apply TL_alloc; exact rfl; intro b12 _); apply TL_nil; apply TQ_any
          refine TA_stepL [0] (by kernel_rfl) rfl ⟨?_, trivial⟩
          change TL _ _ _ _ _ _ _ _ _ _ _
          refine r1 ?_; apply TL_nil; apply TQ_any
          refine TA_stepL [4] (by kernel_rfl) rfl ⟨?_, trivial⟩
          change TL _ _ _ _ _ _ _ _ _ _ _
          refine r1 ?_; apply TL_nil; apply TQ_any
          refine TA_stepL [5] (by kernel_rfl) rfl ⟨?_, trivial⟩
          change TL _ _ _ _ _ _ _ _ _ _ _
          refine r1 ?_; apply TL_nil; apply TQ_any
          refine TA_done (by kernel_rfl) ?_
          (first | exact TQ_mid (b12, b13) trivial sb (fun w h => h) | exact TQ_mid (b12, b13) trivial sb (fun w h => h.perm (List.Perm.swap _ _ _)))
      · change TL _ _ _ _ _ _ _ _ _ _ _
        (apply TL_alloc; exact rfl; intro b12 _); apply TL_nil; apply TQ_any
        refine TA_stepL [0, 1] (by kernel_rfl) rfl ⟨?_, ?_, trivial⟩
        · change TL _ _ _ _ _ _ _ _ _ _ _
          refine r1 ?_; apply TL_nil; apply TQ_any
          refine TA_stepL [1, 4] (by kernel_rfl) rfl ⟨?_, ?_, trivial⟩
          · change TL _ _ _ _ _ _ _ _ _ _ _
            refine r1 ?_; apply TL_nil; apply TQ_any
            refine TA_stepL [4] (by kernel_rfl) rfl ⟨?_, trivial⟩
            change TL _ _ _ _ _ _ _ _ _ _ _
            refine r1 ?_; apply TL_nil; apply TQ_any
            refine TA_stepL [5] (by kernel_rfl) rfl ⟨?_, trivial⟩
            change TL _ _ _ _ _ _ _ _ _ _ _
            refine r1 ?_; apply TL_nil; apply TQ_any
            refine TA_done (by kernel_rfl) ?_
            (first | exact TQ_mid (b12, b13) trivial sb (fun w h => h) | exact TQ_mid (b12, b13) trivial sb (fun w h => h.perm (List.Perm.swap _ _ _)))
          · change TL _ _ _ _ _ _ _ _ _ _ _
            refine r1 ?_; apply TL_nil; apply TQ_any
            refine TA_stepL [1] (by kernel_rfl) rfl ⟨?_, trivial⟩
            change TL _ _ _ _ _ _ _ _ _ _ _
            refine r1 ?_; apply TL_nil; apply TQ_any
            refine TA_stepL [5] (by kernel_rfl) rfl ⟨?_, trivial⟩
            change TL _ _ _ _ _ _ _ _ _ _ _
            refine r1 ?_; apply TL_nil; apply TQ_any
            refine TA_done (by kernel_rfl) ?_
            (first | exact TQ_mid (b12, b13) trivial sb (fun w h => h) | exact TQ_mid (b12, b13) trivial sb (fun w h => h.perm (List.Perm.swap _ _ _)))
        · change TL _ _ _ _ _ _ _ _ _ _ _
          refine r1 ?_; apply TL_nil; apply TQ_any
          refine TA_stepL [0] (by kernel_rfl) rfl ⟨?_, trivial⟩
          change TL _ _ _ _ _ _ _ _ _ _ _
          refine r1 ?_; apply TL_nil; apply TQ_any
          refine TA_stepL [4] (by kernel_rfl) rfl ⟨?_, trivial⟩
          change TL _ _ _ _ _ _ _ _ _ _ _
          refine r1 ?_; apply TL_nil; apply TQ_any
          refine TA_stepL [5] (by kernel_rfl) rfl ⟨?_, trivial⟩
          change TL _ _ _ _ _ _ _ _ _ _ _
          refine r1 ?_; apply TL_nil; apply TQ_any
          refine TA_done (by kernel_rfl) ?_
          (first | exact TQ_mid (b12, b13) trivial sb (fun w h => h) | exact TQ_mid (b12, b13) trivial sb (fun w h => h.perm (List.Perm.swap _ _ _)))
  obtain ⟨b12, b13⟩ := q
  dsimp only
  repeat' (first | refine rn ?_ | (apply TL_box; exact rfl; exact rfl; exact rfl; intro _ _) | (apply TL_alloc; exact rfl; intro _ _) | (apply TL_buildSlice; exact rfl; exact rfl; exact rfl; exact rfl; exact rfl; intro _ _))
  apply TC_draw 21; kernel_rfl; exact Try.mixed
  · iterate 3 (refine' pv ?_; rotate_left)
    (refine' PG.val rfl rfl (by intro _X; refine TL_callV rfl rfl rfl (fun w h => c42 R.fod by_ 0 (by omega) u1.1 u1.2.1 (by have := u1.2.2; omega) bo bc hlb w (h.sl hb)) ?_; exact qe) ?_; rotate_left)
    iterate 3 (refine' pv ?_; rotate_left)
    (refine' PG.val rfl rfl (by intro _X; refine TL_callV rfl rfl rfl (fun w h => c42 R.dung by_ 2 (by omega) u2.1 u2.2.1 (by have := u2.2.2; omega) bo bc hlb w (h.sl hb)) ?_; exact qe) ?_; rotate_left)
    iterate 3 (refine' pv ?_; rotate_left)
    (refine' PG.val rfl rfl (by intro _X; refine TL_callV rfl rfl rfl (fun w h => c42 R.eats by_ 4 (by omega) u3.1 u3.2.1 (by have := u3.2.2; omega) bo bc hlb w (h.sl hb)) ?_; exact qe) ?_; rotate_left)
    iterate 3 (refine' pv ?_; rotate_left)
    (refine' PG.val rfl rfl (by intro _X; refine TL_callV rfl rfl rfl (fun w h => c42 R.gives by_ 6 (by omega) u4.1 u4.2.1 (by have := u4.2.2; omega) bo bc hlb w (h.sl hb)) ?_; exact qe) ?_; rotate_left)
    iterate 3 (refine' pv ?_; rotate_left)
    (refine' PG.val rfl rfl (by intro _X; refine TL_callV rfl rfl rfl (fun w h => c42 R.boost by_ 8 (by omega) u5.1 u5.2.1 (by have := u5.2.2; omega) bo bc hlb w (h.sl hb)) ?_; exact qe) ?_; rotate_left)
    (refine' pv ?_; rotate_left)
    exact PG.nil
  change TL _ _ _ _ _ _ _ _ _ _ _
  repeat' (first | refine rn ?_ | (apply TL_box; exact rfl; exact rfl; exact rfl; intro _ _) | (apply TL_alloc; exact rfl; intro _ _) | (apply TL_buildSlice; exact rfl; exact rfl; exact rfl; exact rfl; exact rfl; intro _ _))
  apply TC_draw 9; kernel_rfl; exact Try.mixed
  · (refine' PG.rel ((fun v h => ∃ b, v = .slice (some ⟨b, 0, none⟩) 0 0 ∧ h = [(b, .cells [] 39)])) rfl rfl (by intro _X; apply TL_buildSlice; exact rfl; exact rfl; exact rfl; exact rfl; exact rfl; intro b _; exact TL_nil (TQ_QR (h := [(b, _)]) rfl ⟨b, rfl, rfl⟩ (fun _ h => h))) ?_; rotate_left)
    (refine' pv ?_; rotate_left)
    (refine' pv ?_; rotate_left)
    (refine' PG.rel (fun v h => ∃ so sc, v = .slice so R.seas.length sc ∧ RowE 39 3 encSn so sc h R.seas) rfl rfl (by rintro _ _ ⟨b4, rfl, rfl⟩ _X; refine TL_append0 (l2 := R.seas) (enc := encSn) rfl (by rfl) rfl rfl rfl (fun w h => h.sl ha) (fun u _ => rfl) (by omega) (by simp only [maxLen]; omega) (fun so sc ob hr => TL_nil (TQ_QR (h := ob) rfl ⟨so, sc, rfl, hr⟩ (fun _ h => h)))) ?_; rotate_left)
    (refine' PG.rel ((fun v h => ∃ b, v = .slice (some ⟨b, 0, none⟩) 0 0 ∧ h = [(b, .cells [] 39)])) rfl rfl (by intro _X; apply TL_buildSlice; exact rfl; exact rfl; exact rfl; exact rfl; exact rfl; intro b _; exact TL_nil (TQ_QR (h := [(b, _)]) rfl ⟨b, rfl, rfl⟩ (fun _ h => h))) ?_; rotate_left)
    (refine' pv ?_; rotate_left)
    (refine' pv ?_; rotate_left)
    (refine' PG.rel (fun v h => ∃ so sc, v = .slice so R.seas.length sc ∧ RowE 39 3 encSn so sc h R.seas) rfl rfl (by rintro _ _ ⟨b4, rfl, rfl⟩ _X; refine TL_append0 (l2 := R.seas) (enc := encSn) rfl (by rfl) rfl rfl rfl (fun w h => h.sl ha) (fun u _ => rfl) (by omega) (by simp only [maxLen]; omega) (fun so sc ob hr => TL_nil (TQ_QR (h := ob) rfl ⟨so, sc, rfl, hr⟩ (fun _ h => h)))) ?_; rotate_left)
    (refine' pv ?_; rotate_left)
    exact PG.nil
  rintro _ ob2 ⟨so2, sc2, rfl, hrow2⟩ _ _ ⟨b4, rfl, rfl⟩ _ ob1 ⟨so1, sc1, rfl, hrow1⟩ _ _ ⟨b3, rfl, rfl⟩
  change TL _ _ _ _ _ _ _ _ _ _ _
  repeat' (first | refine rn ?_ | (apply TL_box; exact rfl; exact rfl; exact rfl; intro _ _) | (apply TL_alloc; exact rfl; intro _ _) | (apply TL_buildSlice; exact rfl; exact rfl; exact rfl; exact rfl; exact rfl; intro _ _))
  obtain ⟨v1, hv1⟩ : ∃ v, v = partR R.fod by_ 0 := ⟨_, rfl⟩
  obtain ⟨v2, hv2⟩ : ∃ v, v = partR R.dung by_ 2 := ⟨_, rfl⟩
  obtain ⟨v3, hv3⟩ : ∃ v, v = partR R.eats by_ 4 := ⟨_, rfl⟩
  obtain ⟨v4, hv4⟩ : ∃ v, v = partR R.gives by_ 6 := ⟨_, rfl⟩
  obtain ⟨v5, hv5⟩ : ∃ v, v = partR R.boost by_ 8 := ⟨_, rfl⟩
  rw [← hv1, ← hv2, ← hv3, ← hv4, ← hv5]
  refine TC_loop (σ := Nat × Hp × Hp) (fun q => q.1 ≤ R.seas.length ∧ RowE 39 3 encSn so1 sc1 q.2.1 (mapTo (knownS by_) R.seas q.1) ∧ RowE 39 3 encSn so2 sc2 q.2.2 (mapTo (richS m) R.seas q.1))
    (fun q => [(1, .int .i64 g), (2, .slice bo by_.length bc), (3, .int .u16 m), (4, .int .u16 dd), (5, .pointer (some ⟨b5, 0, none⟩)), (11, .bool true), (12, .pointer (some ⟨b12, 0, none⟩)), (13, .pointer (some ⟨b13, 0, none⟩)), (87, .int .i64 R.seas.length), (88, .int .i64 q.1)])
    (fun q => q.2.2 ++ (q.2.1 ++ [(b12, .cells (encRd ⟨v1, v2, v3, v4, v5, R.seas⟩ so1 sc1) 26), (b13, .cells (encRd R so2 sc2) 26), (b5, .cells (encRd R ao c) 26)])) (fun q => R.seas.length - q.1) (0, ob1, ob2) ⟨Nat.zero_le _, by rw [mapTo_zero]; exact hrow1, by rw [mapTo_zero]; exact hrow2⟩ sb (fun w h => ?_) (fun q hq => ?_)
  · refine h.sub ?_
    simp only [List.append_assoc, List.cons_append, List.nil_append]
    exact (List.Sublist.append_left (List.Sublist.cons _ (List.Sublist.append_left (List.Sublist.cons _ (List.Sublist.refl _)) _)) _)
  obtain ⟨k, ob1, ob2⟩ := q
  obtain ⟨q1, hrow1, hrow2⟩ := hq
  dsimp only at q1 hrow1 hrow2 ⊢
  repeat' (first | refine rn ?_ | (apply TL_box; exact rfl; exact rfl; exact rfl; intro _ _) | (apply TL_alloc; exact rfl; intro _ _) | (apply TL_buildSlice; exact rfl; exact rfl; exact rfl; exact rfl; exact rfl; intro _ _))
  refine TC_cond_dec rfl (fun h1 => ?_) (fun h1 => ?_)
  · have hlt : k < R.seas.length := by omega
    obtain ⟨x, hx⟩ : ∃ x, R.seas[k]? = some x := ⟨_, List.getElem?_eq_getElem hlt⟩
    have hxm : x ∈ R.seas := List.mem_of_getElem? hx
    have hne : R.seas ≠ [] := by intro h; simp [h] at hlt
    have hox := u7 x hxm
    simp only [Ord, In] at hox
    have hmod := (plusS_rg (u7 x hxm).1 hm.1).2.2
    have hx1 : (mapTo (knownS by_) R.seas k)[k]? = some x := by rw [mapTo_get, hx]; simp
    have hx2 : (mapTo (richS m) R.seas k)[k]? = some x := by rw [mapTo_get, hx]; simp
    have hne1 : mapTo (knownS by_) R.seas k ≠ [] := by intro h; rw [h] at hx1; cases hx1
    have hne2 : mapTo (richS m) R.seas k ≠ [] := by intro h; rw [h] at hx2; cases hx2
    have hs1 := mapTo_set (knownS by_) R.seas hx
    have hs2 := mapTo_set (richS m) R.seas hx
    have hl1 : (mapTo (knownS by_) R.seas k).length = R.seas.length := mapTo_len _ _ _
    have hl2 : (mapTo (richS m) R.seas k).length = R.seas.length := mapTo_len _ _ _
    repeat' (first | refine rn ?_ | (apply TL_box; exact rfl; exact rfl; exact rfl; intro _ _) | (apply TL_alloc; exact rfl; intro _ _) | (apply TL_buildSlice; exact rfl; exact rfl; exact rfl; exact rfl; exact rfl; intro _ _))
    apply TC_draw 14; kernel_rfl; exact Try.mixed
    · iterate 6 (refine' pv ?_; rotate_left)
      (refine' PG.val rfl rfl (by intro _X; refine TL_index k rfl rfl rfl (fun w h => h.sl ha) rfl hlt (Nat.le_refl _) ?_; exact qe) ?_; rotate_left)
      (refine' PG.val rfl rfl (by intro _X; refine TL_fieldAddr_el rfl rfl (fun w h => h.sl ha) hne ?_; exact qe) ?_; rotate_left)
      (refine' PG.val rfl rfl (by intro _X; refine TL_load_eln (u := x) rfl rfl (fun w h => h.sl ha) hx rfl ?_; exact qe) ?_; rotate_left)
      iterate 4 (refine' pv ?_; rotate_left)
      (refine' PG.val rfl rfl (by intro _X; refine TL_callV rfl rfl rfl (fun w h => c42 x.1 by_ (10 + 2 * (k : Int)) (by omega) hox.1.1 hox.1.2.1 (by omega) bo bc hlb w (h.sl hb)) ?_; exact qe) ?_; rotate_left)
      exact PG.nil
    change TL _ _ _ _ _ _ _ _ _ _ _
    refine TL_index k rfl rfl rfl (fun w h => hrow1.sl h (fun p hp => (by repeat (first | exact List.mem_append_left _ hp | apply List.mem_append_right | apply List.mem_cons_of_mem)))) rfl (by omega) (Nat.le_of_eq hl1) ?_
    refine TL_fieldAddr_el rfl rfl (fun w h => hrow1.sl h (fun p hp => (by repeat (first | exact List.mem_append_left _ hp | apply List.mem_append_right | apply List.mem_cons_of_mem)))) hne1 ?_
    refine TL_store_el (u := x) (u' := knownS by_ k x) (f := fun z => ob2 ++ (z ++ [(b12, .cells (encRd ⟨v1, v2, v3, v4, v5, R.seas⟩ so1 sc1) 26), (b13, .cells (encRd R so2 sc2) 26), (b5, .cells (encRd R ao c) 26)])) (hrow1.row hne1) rfl rfl rfl rfl rfl rfl hx1 rfl rfl (fun b x y => up) (fun ob1' hr1 => ?_)
    rw [hs1] at hr1
    dsimp only
    repeat' (first | refine rn ?_ | (apply TL_box; exact rfl; exact rfl; exact rfl; intro _ _) | (apply TL_alloc; exact rfl; intro _ _) | (apply TL_buildSlice; exact rfl; exact rfl; exact rfl; exact rfl; exact rfl; intro _ _))
    refine TL_index k rfl rfl rfl (fun w h => hrow2.sl h (fun p hp => (by repeat (first | exact List.mem_append_left _ hp | apply List.mem_append_right | apply List.mem_cons_of_mem)))) rfl (by omega) (Nat.le_of_eq hl2) ?_
    refine TL_fieldAddr_el rfl rfl (fun w h => hrow2.sl h (fun p hp => (by repeat (first | exact List.mem_append_left _ hp | apply List.mem_append_right | apply List.mem_cons_of_mem)))) hne2 ?_
    repeat' (first | (refine TL_conv_same rfl rfl (wrap_i64_nn hm.1 (by omega)) ?_) | refine r1 ?_ | (apply TL_box; exact rfl; exact rfl; exact rfl; intro _ _) | (apply TL_alloc; exact rfl; intro _ _) | (apply TL_buildSlice; exact rfl; exact rfl; exact rfl; exact rfl; exact rfl; intro _ _))
    refine TL_nilCheck rfl rfl ?_
    refine TL_fieldAddr_el rfl rfl (fun w h => hrow2.sl h (fun p hp => (by repeat (first | exact List.mem_append_left _ hp | apply List.mem_append_right | apply List.mem_cons_of_mem)))) hne2 ?_
    refine TL_load_el1 (u := x) rfl rfl (fun w h => hrow2.sl h (fun p hp => (by repeat (first | exact List.mem_append_left _ hp | apply List.mem_append_right | apply List.mem_cons_of_mem)))) hx2 rfl ?_
    repeat' (first | refine rn ?_ | (apply TL_box; exact rfl; exact rfl; exact rfl; intro _ _) | (apply TL_alloc; exact rfl; intro _ _) | (apply TL_buildSlice; exact rfl; exact rfl; exact rfl; exact rfl; exact rfl; intro _ _))
    apply TC_draw 14; kernel_rfl; exact Try.mixed
    · iterate 2 (refine' pv ?_; rotate_left)
      (refine' PG.val rfl rfl (by intro _X; refine TL_nilCheck rfl rfl ?_; exact qe) ?_; rotate_left)
      (refine' PG.val rfl rfl (by intro _X; refine TL_fieldAddr_el rfl rfl (fun w h => hrow2.sl h (fun p hp => (by repeat (first | exact List.mem_append_left _ hp | apply List.mem_append_right | apply List.mem_cons_of_mem)))) hne2 ?_; exact qe) ?_; rotate_left)
      (refine' PG.val rfl rfl (by intro _X; refine TL_load_el1 (u := x) rfl rfl (fun w h => hrow2.sl h (fun p hp => (by repeat (first | exact List.mem_append_left _ hp | apply List.mem_append_right | apply List.mem_cons_of_mem)))) hx2 rfl ?_; exact qe) ?_; rotate_left)
      iterate 3 (refine' pv ?_; rotate_left)
      (refine' PG.val rfl rfl (by intro _X; refine TL_nilCheck rfl rfl ?_; exact qe) ?_; rotate_left)
      (refine' PG.val rfl rfl (by intro _X; refine TL_fieldAddr_el rfl rfl (fun w h => hrow2.sl h (fun p hp => (by repeat (first | exact List.mem_append_left _ hp | apply List.mem_append_right | apply List.mem_cons_of_mem)))) hne2 ?_; exact qe) ?_; rotate_left)
      (refine' PG.val rfl rfl (by intro _X; refine TL_load_el1 (u := x) rfl rfl (fun w h => hrow2.sl h (fun p hp => (by repeat (first | exact List.mem_append_left _ hp | apply List.mem_append_right | apply List.mem_cons_of_mem)))) hx2 rfl ?_; exact qe) ?_; rotate_left)
      iterate 2 (refine' pv ?_; rotate_left)
      (refine' PG.val rfl rfl (by intro _X; refine TL_callV rfl rfl rfl (fun w _ => c34 (x.1.1 + m % (1000000 - x.1.2 + 1)) (x.1.2 + m % (1000000 - x.1.2 + 1)) w) ?_; exact qe) ?_; rotate_left)
      exact PG.nil
    change TL _ _ _ _ _ _ _ _ _ _ _
    refine TL_nilCheck rfl rfl ?_
    refine TL_store_el (u := x) (u' := richS m k x) (f := fun z => z ++ (ob1' ++ [(b12, .cells (encRd ⟨v1, v2, v3, v4, v5, R.seas⟩ so1 sc1) 26), (b13, .cells (encRd R so2 sc2) 26), (b5, .cells (encRd R ao c) 26)])) (hrow2.row hne2) rfl rfl rfl rfl rfl rfl hx2 rfl rfl (fun b x y => up) (fun ob2' hr2 => ?_)
    rw [hs2] at hr2
    repeat' (first | refine rn ?_ | (apply TL_box; exact rfl; exact rfl; exact rfl; intro _ _) | (apply TL_alloc; exact rfl; intro _ _) | (apply TL_buildSlice; exact rfl; exact rfl; exact rfl; exact rfl; exact rfl; intro _ _))
    refine TQ_round (k + 1, ob1', ob2') ⟨hlt, .inl hr1, .inl hr2⟩ (by dsimp only; omega) sb (fun w h => h)
  · have hk : k = R.seas.length := by omega
    subst hk
    rw [mapTo_all _ _ (Nat.le_refl _)] at hrow1 hrow2
    have hmod := (plusS_rg u2 hdd.1).2.2
    simp only [Ord] at u2
    repeat' (first | (refine TL_conv_same rfl rfl (wrap_i64_nn hdd.1 (by omega)) ?_) | refine r1 ?_ | (apply TL_box; exact rfl; exact rfl; exact rfl; intro _ _) | (apply TL_alloc; exact rfl; intro _ _) | (apply TL_buildSlice; exact rfl; exact rfl; exact rfl; exact rfl; exact rfl; intro _ _))
    refine TL_callV rfl rfl rfl (fun w _ => c34 (R.dung.1 + dd % (1000000 - R.dung.2 + 1)) (R.dung.2 + dd % (1000000 - R.dung.2 + 1)) w) ?_
    repeat' (first | refine rn ?_ | (apply TL_box; exact rfl; exact rfl; exact rfl; intro _ _) | (apply TL_alloc; exact rfl; intro _ _) | (apply TL_buildSlice; exact rfl; exact rfl; exact rfl; exact rfl; exact rfl; intro _ _))
    obtain ⟨hK1, hK2⟩ := knownR_ok hR by_
    obtain ⟨hM1, hM2⟩ := plusR_ok hR hm.1 hdd.1
    have eK : encRd (knownR R by_) so1 sc1 = encRd ⟨v1, v2, v3, v4, v5, R.seas⟩ so1 sc1 := by simp only [encRd, knownR, hv1, hv2, hv3, hv4, hv5, List.length_mapIdx]
    have eM : encRd (plusR R m dd) so2 sc2 = encRd { R with dung := (R.dung.1 + dd % (1000000 - R.dung.2 + 1), R.dung.2 + dd % (1000000 - R.dung.2 + 1)) } so2 sc2 := by simp only [encRd, plusR, plusS, List.length_mapIdx]
    have hlK : (knownR R by_).seas.length ≤ 4611686018427387904 := by simp only [knownR, List.length_mapIdx]; exact hlen
    have hlM : (plusR R m dd).seas.length ≤ 4611686018427387904 := by simp only [plusR, List.length_mapIdx]; exact hlen
    have c15R := fun w h => c15 R g ao c hlen w h
    have c15K := fun w h => c15 (knownR R by_) g so1 sc1 hlK w h
    rw [goR_run hR (by omega) (by omega)] at c15R
    rw [goR_run hK1 (by omega) (by omega), eK] at c15K
    have c17R := fun w h => c17 R ao c hlen w h
    have c17K := fun w h => c17 (knownR R by_) so1 sc1 hlK w h
    have c17M := fun w h => c17 (plusR R m dd) so2 sc2 hlM w h
    rw [eK] at c17K
    rw [eM] at c17M
    have gK := goats_wid hR hK1 hK2.wid
    have gM := goats_wid hR hM1 hM2
    generalize goatsP R = GR at gK gM c17R
    generalize goatsP (knownR R by_) = GK at gK c17K
    generalize goatsP (plusR R m dd) = GM at gM c17M
    refine TL_callN rfl rfl rfl (fun w h => c15R w (h.sl ha)) ?_
    rintro ⟨soA, scA, obA⟩ hrowA
    replace hrowA : Row 97 4 encSt soA scA obA (runAll R g).1 := hrowA
    dsimp only [runV]
    repeat' (first | refine rn ?_ | (apply TL_box; exact rfl; exact rfl; exact rfl; intro _ _) | (apply TL_alloc; exact rfl; intro _ _) | (apply TL_buildSlice; exact rfl; exact rfl; exact rfl; exact rfl; exact rfl; intro _ _))
    refine TL_callN rfl rfl rfl (fun w h => c15K w (hrow1.sl h (fun p hp => (by repeat (first | exact List.mem_append_left _ hp | apply List.mem_append_right | apply List.mem_cons_of_mem))))) ?_
    rintro ⟨soB, scB, obB⟩ hrowB
    replace hrowB : Row 97 4 encSt soB scB obB (runAll (knownR R by_) g).1 := hrowB
    dsimp only [runV]
    repeat' (first | refine rn ?_ | (apply TL_box; exact rfl; exact rfl; exact rfl; intro _ _) | (apply TL_alloc; exact rfl; intro _ _) | (apply TL_buildSlice; exact rfl; exact rfl; exact rfl; exact rfl; exact rfl; intro _ _))
    refine TC_join (σ := Unit) (fun _ => True) (fun _ => [(5, .pointer (some ⟨b5, 0, none⟩)), (11, .bool true), (12, .pointer (some ⟨b12, 0, none⟩)), (13, .pointer (some ⟨b13, 0, none⟩))])
      (fun _ => ob2 ++ (ob1 ++ [(b12, .cells (encRd ⟨v1, v2, v3, v4, v5, R.seas⟩ so1 sc1) 26), (b13, .cells (encRd { R with dung := (R.dung.1 + dd % (1000000 - R.dung.2 + 1), R.dung.2 + dd % (1000000 - R.dung.2 + 1)) } so2 sc2) 26), (b5, .cells (encRd R ao c) 26)])) ?_ (fun _ _ => ?_)
    · refine TC_cond_dec rfl (fun he => ?_) (fun he => ?_)
      · have hok := runR_ok R g R.seas 0 [] rfl rfl (fun k h => by omega) he
        have heK : (runAll (knownR R by_) g).2.2 = 0 := run_wid (by omega) hK2.wid he
        have hokK := runR_ok (knownR R by_) g (knownR R by_).seas 0 [] rfl rfl (fun k h => by omega) heK
        change (runAll R g).1.length = _ ∧ (∀ k, k < _ → (runAll R g).1[k]? = _) ∧ _ at hok
        change (runAll (knownR R by_) g).1.length = _ ∧ (∀ k, k < _ → (runAll (knownR R by_) g).1[k]? = _) ∧ _ at hokK
        obtain ⟨k1, k2, _⟩ := hok
        obtain ⟨j1, j2, _⟩ := hokK
        rw [hK2.len] at j1 j2
        simp only [Nat.zero_add] at k1 k2 j1 j2
        have hst := fun k h => (stN_ins (g := g) (by omega) hK2 k h)
        generalize runAll R g = RA at he hrowA k1 k2 ⊢
        generalize runAll (knownR R by_) g = RK at heK hrowB j1 j2 ⊢
        have hkl : ((RA.1.length : Nat) : Int) = ((RK.1.length : Nat) : Int) := by rw [k1, j1]
        repeat' (first | (refine TL_neq_f rfl rfl rfl heK ?_) | (refine TL_neq_f rfl rfl rfl hkl ?_) | refine r1 ?_ | (apply TL_box; exact rfl; exact rfl; exact rfl; intro _ _) | (apply TL_alloc; exact rfl; intro _ _) | (apply TL_buildSlice; exact rfl; exact rfl; exact rfl; exact rfl; exact rfl; intro _ _))
        refine TC_loop (σ := Nat) (fun k => k ≤ R.seas.length) (fun k => [(5, .pointer (some ⟨b5, 0, none⟩)), (11, .bool true), (12, .pointer (some ⟨b12, 0, none⟩)), (13, .pointer (some ⟨b13, 0, none⟩)), (18, .slice soA RA.1.length scA), (21, .slice soB RK.1.length scB), (183, .int .i64 RA.1.length), (184, .int .i64 k)])
          (fun _ => obB ++ (obA ++ (ob2 ++ (ob1 ++ [(b12, .cells (encRd ⟨v1, v2, v3, v4, v5, R.seas⟩ so1 sc1) 26), (b13, .cells (encRd { R with dung := (R.dung.1 + dd % (1000000 - R.dung.2 + 1), R.dung.2 + dd % (1000000 - R.dung.2 + 1)) } so2 sc2) 26), (b5, .cells (encRd R ao c) 26)])))) (fun k => R.seas.length - k) 0 (Nat.zero_le _) sb (fun w h => h) (fun k hk => ?_)
        repeat' (first | refine rn ?_ | (apply TL_box; exact rfl; exact rfl; exact rfl; intro _ _) | (apply TL_alloc; exact rfl; intro _ _) | (apply TL_buildSlice; exact rfl; exact rfl; exact rfl; exact rfl; exact rfl; intro _ _))
        refine TC_cond_dec rfl (fun h1 => ?_) (fun h1 => ?_)
        · have hlt : k < R.seas.length := by omega
          have hA := k2 k hlt
          have hB := j2 k hlt
          have hin := hst (k + 1) (by omega)
          generalize stN R g (k + 1) = x1 at hA hin
          generalize stN (knownR R by_) g (k + 1) = x2 at hB hin
          have hneA : RA.1 ≠ [] := by intro h; rw [h] at hA; cases hA
          have hneB : RK.1 ≠ [] := by intro h; rw [h] at hB; cases hB
          have c43a := fun w => c43 x2.1 x1.1 w
          have c43b := fun w => c43 x2.2 x1.2 w
          rw [decide_eq_true (show x1.1.1 ≤ x2.1.1 ∧ x2.1.2 ≤ x1.1.2 from hin.1)] at c43a
          rw [decide_eq_true (show x1.2.1 ≤ x2.2.1 ∧ x2.2.2 ≤ x1.2.2 from hin.2)] at c43b
          repeat' (first | refine rn ?_ | (apply TL_box; exact rfl; exact rfl; exact rfl; intro _ _) | (apply TL_alloc; exact rfl; intro _ _) | (apply TL_buildSlice; exact rfl; exact rfl; exact rfl; exact rfl; exact rfl; intro _ _))
          apply TC_draw 26; kernel_rfl; exact Try.mixed
          · iterate 2 (refine' pv ?_; rotate_left)
            (refine' PG.val rfl rfl (by intro _X; refine TL_index k rfl rfl rfl (fun w h => hrowB.sl h (fun p hp => (by repeat (first | exact List.mem_append_left _ hp | apply List.mem_append_right | apply List.mem_cons_of_mem)))) rfl (by omega) (Nat.le_refl _) ?_; exact qe) ?_; rotate_left)
            (refine' PG.val rfl rfl (by intro _X; refine TL_fieldAddr_el rfl rfl (fun w h => hrowB.sl h (fun p hp => (by repeat (first | exact List.mem_append_left _ hp | apply List.mem_append_right | apply List.mem_cons_of_mem)))) hneB ?_; exact qe) ?_; rotate_left)
            (refine' PG.val rfl rfl (by intro _X; refine TL_load_eln (u := x2) rfl rfl (fun w h => hrowB.sl h (fun p hp => (by repeat (first | exact List.mem_append_left _ hp | apply List.mem_append_right | apply List.mem_cons_of_mem)))) hB rfl ?_; exact qe) ?_; rotate_left)
            iterate 2 (refine' pv ?_; rotate_left)
            (refine' PG.val rfl rfl (by intro _X; refine TL_index k rfl rfl rfl (fun w h => hrowA.sl h (fun p hp => (by repeat (first | exact List.mem_append_left _ hp | apply List.mem_append_right | apply List.mem_cons_of_mem)))) rfl (by omega) (Nat.le_refl _) ?_; exact qe) ?_; rotate_left)
            (refine' PG.val rfl rfl (by intro _X; refine TL_fieldAddr_el rfl rfl (fun w h => hrowA.sl h (fun p hp => (by repeat (first | exact List.mem_append_left _ hp | apply List.mem_append_right | apply List.mem_cons_of_mem)))) hneA ?_; exact qe) ?_; rotate_left)
            (refine' PG.val rfl rfl (by intro _X; refine TL_load_eln (u := x1) rfl rfl (fun w h => hrowA.sl h (fun p hp => (by repeat (first | exact List.mem_append_left _ hp | apply List.mem_append_right | apply List.mem_cons_of_mem)))) hA rfl ?_; exact qe) ?_; rotate_left)
            (refine' PG.val rfl rfl (by intro _X; refine TL_callV rfl rfl rfl (fun w _ => c43a w) ?_; exact qe) ?_; rotate_left)
            (refine' pv ?_; rotate_left)
            (refine' pv ?_; rotate_left)
            (refine' pg ?_; rotate_left)
            (refine' pg ?_; rotate_left)
            (refine' PG.val rfl rfl (by intro _X; (refine TL_guard_yes rfl rfl rfl ?_); refine TL_index k rfl rfl rfl (fun w h => hrowB.sl h (fun p hp => (by repeat (first | exact List.mem_append_left _ hp | apply List.mem_append_right | apply List.mem_cons_of_mem)))) rfl (by omega) (Nat.le_refl _) ?_; exact qe) ?_; rotate_left)
            (refine' PG.val rfl rfl (by intro _X; (refine TL_guard_yes rfl rfl rfl ?_); refine TL_fieldAddr_el rfl rfl (fun w h => hrowB.sl h (fun p hp => (by repeat (first | exact List.mem_append_left _ hp | apply List.mem_append_right | apply List.mem_cons_of_mem)))) hneB ?_; exact qe) ?_; rotate_left)
            (refine' PG.val rfl rfl (by intro _X; (refine TL_guard_yes rfl rfl rfl ?_); refine TL_load_eln (u := x2) rfl rfl (fun w h => hrowB.sl h (fun p hp => (by repeat (first | exact List.mem_append_left _ hp | apply List.mem_append_right | apply List.mem_cons_of_mem)))) hB rfl ?_; exact qe) ?_; rotate_left)
            iterate 2 (refine' pg ?_; rotate_left)
            (refine' PG.val rfl rfl (by intro _X; (refine TL_guard_yes rfl rfl rfl ?_); refine TL_index k rfl rfl rfl (fun w h => hrowA.sl h (fun p hp => (by repeat (first | exact List.mem_append_left _ hp | apply List.mem_append_right | apply List.mem_cons_of_mem)))) rfl (by omega) (Nat.le_refl _) ?_; exact qe) ?_; rotate_left)
            (refine' PG.val rfl rfl (by intro _X; (refine TL_guard_yes rfl rfl rfl ?_); refine TL_fieldAddr_el rfl rfl (fun w h => hrowA.sl h (fun p hp => (by repeat (first | exact List.mem_append_left _ hp | apply List.mem_append_right | apply List.mem_cons_of_mem)))) hneA ?_; exact qe) ?_; rotate_left)
            (refine' PG.val rfl rfl (by intro _X; (refine TL_guard_yes rfl rfl rfl ?_); refine TL_load_eln (u := x1) rfl rfl (fun w h => hrowA.sl h (fun p hp => (by repeat (first | exact List.mem_append_left _ hp | apply List.mem_append_right | apply List.mem_cons_of_mem)))) hA rfl ?_; exact qe) ?_; rotate_left)
            (refine' PG.val rfl rfl (by intro _X; (refine TL_guard_yes rfl rfl rfl ?_); refine TL_callV rfl rfl rfl (fun w _ => c43b w) ?_; exact qe) ?_; rotate_left)
            (refine' pg ?_; rotate_left)
            (refine' pv ?_; rotate_left)
            exact PG.nil
          change TL _ _ _ _ _ _ _ _ _ _ _
          repeat' (first | refine rn ?_ | (apply TL_box; exact rfl; exact rfl; exact rfl; intro _ _) | (apply TL_alloc; exact rfl; intro _ _) | (apply TL_buildSlice; exact rfl; exact rfl; exact rfl; exact rfl; exact rfl; intro _ _))
          refine TQ_round (k + 1) hlt (by omega) sb (fun w h => h)
        · repeat' (first | refine rn ?_ | (apply TL_box; exact rfl; exact rfl; exact rfl; intro _ _) | (apply TL_alloc; exact rfl; intro _ _) | (apply TL_buildSlice; exact rfl; exact rfl; exact rfl; exact rfl; exact rfl; intro _ _))
          exact TQ_mid () trivial sb (fun w h => h.sub (by repeat (first | exact List.Sublist.refl _ | refine List.Sublist.trans ?_ (List.sublist_append_right _ _))))
      · repeat' (first | refine rn ?_ | (apply TL_box; exact rfl; exact rfl; exact rfl; intro _ _) | (apply TL_alloc; exact rfl; intro _ _) | (apply TL_buildSlice; exact rfl; exact rfl; exact rfl; exact rfl; exact rfl; intro _ _))
        exact TQ_mid () trivial sb (fun w h => h.sub (by repeat (first | exact List.Sublist.refl _ | refine List.Sublist.trans ?_ (List.sublist_append_right _ _))))
    · repeat' (first | refine rn ?_ | (apply TL_box; exact rfl; exact rfl; exact rfl; intro _ _) | (apply TL_alloc; exact rfl; intro _ _) | (apply TL_buildSlice; exact rfl; exact rfl; exact rfl; exact rfl; exact rfl; intro _ _))
      refine TL_callV rfl rfl rfl (fun w h => c17R w (h.sl ha)) ?_
      repeat' (first | refine rn ?_ | (apply TL_box; exact rfl; exact rfl; exact rfl; intro _ _) | (apply TL_alloc; exact rfl; intro _ _) | (apply TL_buildSlice; exact rfl; exact rfl; exact rfl; exact rfl; exact rfl; intro _ _))
      refine TL_callV rfl rfl rfl (fun w h => c17M w (hrow2.sl h (fun p hp => (by repeat (first | exact List.mem_append_left _ hp | apply List.mem_append_right | apply List.mem_cons_of_mem))))) ?_
      repeat' (first | refine rn ?_ | (apply TL_box; exact rfl; exact rfl; exact rfl; intro _ _) | (apply TL_alloc; exact rfl; intro _ _) | (apply TL_buildSlice; exact rfl; exact rfl; exact rfl; exact rfl; exact rfl; intro _ _))
      refine TL_callV rfl rfl rfl (fun w h => c17K w (hrow1.sl h (fun p hp => (by repeat (first | exact List.mem_append_left _ hp | apply List.mem_append_right | apply List.mem_cons_of_mem))))) ?_
      rcases gM with ⟨_, gM⟩ | ⟨gM0, gM1, gM2, gM3⟩
      · rw [gM]
        repeat' (first | refine rn ?_ | (apply TL_box; exact rfl; exact rfl; exact rfl; intro _ _) | (apply TL_alloc; exact rfl; intro _ _) | (apply TL_buildSlice; exact rfl; exact rfl; exact rfl; exact rfl; exact rfl; intro _ _))
        exact TQ_ret1 Try.results14 (RV.tmp rfl) (fun w' hs => ⟨rfl, hs.below⟩)
      · rcases gK with ⟨gK, _⟩ | ⟨_, gK1, gK2, gK3⟩
        · exact absurd gM0 gK
        · rw [gM0, gM1, gK1]
          repeat' (first | (refine TL_leq_t rfl rfl rfl (by omega) ?_) | (refine TL_geq_t rfl rfl rfl (by omega) ?_) | refine r1 ?_ | (apply TL_box; exact rfl; exact rfl; exact rfl; intro _ _) | (apply TL_alloc; exact rfl; intro _ _) | (apply TL_buildSlice; exact rfl; exact rfl; exact rfl; exact rfl; exact rfl; intro _ _))
          exact TQ_ret1 Try.results14 (RV.tmp rfl) (fun w' hs => ⟨rfl, hs.below⟩)
end Go.Proofs.Ytccgplomnjpniaa
