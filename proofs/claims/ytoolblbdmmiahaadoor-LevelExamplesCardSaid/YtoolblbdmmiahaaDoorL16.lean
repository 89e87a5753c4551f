/- Walks: rounding down and up; the ends of a slope. -/
import Derived.Test.YtoolblbdmmiahaaDoorL14
namespace Go.Proofs.YtoolblbdmmiahaaDoor
open Go Go.Eng Go.RowKit Go.Proofs
set_option maxHeartbeats 4000000
set_option maxRecDepth 10000
attribute [local irreducible] TL TC TQ

theorem ediv_of {a b q : Int} (hb : 0 < b) (h1 : q * b ≤ a) (h2 : a < q * b + b) : a / b = q := by
  have h3 : q ≤ a / b := (Int.le_ediv_iff_mul_le hb).2 h1
  have h4 : a / b < q + 1 := (Int.ediv_lt_iff_lt_mul hb).2 (by rw [Int.add_mul, Int.one_mul]; exact h2)
  omega
theorem down_neg {a b : Int} (hb : 0 < b) : -((b - 1 - a) / b) = a / b := by
  have h1 : a / b * b ≤ a := Int.ediv_mul_le a (by omega)
  have h2 : a < a / b * b + b := Int.lt_ediv_add_one_mul_self a hb |> fun h => by rw [Int.add_mul, Int.one_mul] at h; exact h
  rw [ediv_of (q := -(a / b)) hb (by rw [Int.neg_mul]; omega) (by rw [Int.neg_mul]; omega), Int.neg_neg]
theorem div_B {a b : Int} (hb : 0 < b) (ha : -1000000000000 ≤ a ∧ a ≤ 1000000000000) : -1000000000000 ≤ a / b ∧ a / b ≤ 1000000000000 := by
  have h0 : (1 : Int) ≤ b := by omega
  constructor
  · refine (Int.le_ediv_iff_mul_le hb).2 ?_
    have : (1000000000000 : Int) * 1 ≤ 1000000000000 * b := Int.mul_le_mul_of_nonneg_left h0 (by omega)
    omega
  · have h1 : a / b < 1000000000000 + 1 := (Int.ediv_lt_iff_lt_mul hb).2 (by
      have : (1000000000001 : Int) * 1 ≤ 1000000000001 * b := Int.mul_le_mul_of_nonneg_left h0 (by omega)
      omega)
    omega
theorem tdiv_two {a b : Int} (hb : 0 < b) : (a.tdiv b * b ≤ a ∧ a.tdiv b = a / b) ∨ (a < a.tdiv b * b ∧ a.tdiv b - 1 = a / b) := by
  by_cases ha : 0 ≤ a
  · rw [Int.tdiv_eq_ediv_of_nonneg ha]
    exact .inl ⟨Int.ediv_mul_le a (by omega), rfl⟩
  · have e : a.tdiv b = -((-a) / b) := by rw [← Int.tdiv_eq_ediv_of_nonneg (by omega), Int.neg_tdiv, Int.neg_neg]
    have h1 : (-a) / b * b ≤ -a := Int.ediv_mul_le _ (by omega)
    have h2 : -a < (-a) / b * b + b := Int.lt_ediv_add_one_mul_self (-a) hb |> fun h => by rw [Int.add_mul, Int.one_mul] at h; exact h
    rw [e, Int.neg_mul]
    by_cases h : -((-a) / b * b) ≤ a
    · exact .inl ⟨h, (ediv_of hb (by rw [Int.neg_mul]; omega) (by rw [Int.neg_mul]; omega)).symm⟩
    · exact .inr ⟨by omega, (ediv_of hb (by rw [Int.sub_mul, Int.neg_mul, Int.one_mul]; omega) (by rw [Int.sub_mul, Int.neg_mul, Int.one_mul]; omega)).symm⟩
theorem c68 (a b : Int) (hb : 0 < b ∧ b ≤ 1000000000) (ha : -1000000000000 ≤ a ∧ a ≤ 1000000000000) (w : World) : Calls Tryd.prog 32 #[.int .i64 a, .int .i64 b] w (RetV w (.int .i64 (a / b))) := by
  have hB := div_B hb.1 ha
  have hM : a / b * b ≤ a := Int.ediv_mul_le a (by omega)
  have hM2 : a < a / b * b + b := Int.lt_ediv_add_one_mul_self a hb.1 |> fun h => by rw [Int.add_mul, Int.one_mul] at h; exact h
  refine enter (args := [.int .i64 a, .int .i64 b]) Tryd.func32 rfl Tryd.ntmps32 rfl (SH.refl _) ?_
  repeat' (first | (refine TL_quo rfl rfl rfl (by omega) (by rcases tdiv_two (a := a) hb.1 with h | h <;> omega) ?_) | refine r1 ?_ | (apply TL_box; exact rfl; exact rfl; exact rfl; intro _ _) | (apply TL_alloc; exact rfl; intro _ _) | (apply TL_buildSlice; exact rfl; exact rfl; exact rfl; exact rfl; exact rfl; intro _ _))
  rcases tdiv_two (a := a) hb.1 with ⟨h1, h2⟩ | ⟨h1, h2⟩
  · rw [h2] at h1 ⊢
    repeat' (first | refine rn ?_ | (apply TL_box; exact rfl; exact rfl; exact rfl; intro _ _) | (apply TL_alloc; exact rfl; intro _ _) | (apply TL_buildSlice; exact rfl; exact rfl; exact rfl; exact rfl; exact rfl; intro _ _))
    refine TC_cond_dec rfl (fun g1 => ?_) (fun g1 => ?_)
    · omega
    · repeat' (first | refine rn ?_ | (apply TL_box; exact rfl; exact rfl; exact rfl; intro _ _) | (apply TL_alloc; exact rfl; intro _ _) | (apply TL_buildSlice; exact rfl; exact rfl; exact rfl; exact rfl; exact rfl; intro _ _))
      exact TQ_ret1 Tryd.results32 (RV.tmp rfl) (fun w' hs => ⟨rfl, hs.below⟩)
  · have h3 : a.tdiv b = a / b + 1 := by omega
    have h4 : (a / b + 1) * b = a / b * b + b := by rw [Int.add_mul, Int.one_mul]
    rw [h3] at h1 ⊢
    repeat' (first | refine rn ?_ | (apply TL_box; exact rfl; exact rfl; exact rfl; intro _ _) | (apply TL_alloc; exact rfl; intro _ _) | (apply TL_buildSlice; exact rfl; exact rfl; exact rfl; exact rfl; exact rfl; intro _ _))
    refine TC_cond_dec rfl (fun g1 => ?_) (fun g1 => ?_)
    · repeat' (first | refine rn ?_ | (apply TL_box; exact rfl; exact rfl; exact rfl; intro _ _) | (apply TL_alloc; exact rfl; intro _ _) | (apply TL_buildSlice; exact rfl; exact rfl; exact rfl; exact rfl; exact rfl; intro _ _))
      refine TQ_ret1 Tryd.results32 (RV.tmp rfl) (fun w' hs => ⟨?_, hs.below⟩)
      rw [show a / b + 1 - 1 = a / b by omega]
    · exfalso; omega
def minL : List Int → Int
  | [] => 0
  | x :: t => t.foldl min x
theorem minL_step {x : Int} {t : List Int} {k : Nat} {y : Int} (h : (x :: t)[k + 1]? = some y) : minL ((x :: t).take (k + 2)) = min (minL ((x :: t).take (k + 1))) y := by
  have h' : t[k]? = some y := by simpa using h
  rw [List.take_succ_cons, List.take_succ_cons, List.take_add_one, h']
  simp [minL, List.foldl_append]
theorem c69 (x : Int) (t : List Int) (ao : Option Addr) (c n : Nat) (hn : n = t.length + 1) (hl : n ≤ 1000000) (w : World) (ha : Sl w 1 encI ao (x :: t)) :
    Calls Tryd.prog 33 #[.slice ao n c] w (RetV w (.int .i64 (minL (x :: t)))) := by
  refine enter (args := [.slice ao n c]) Tryd.func33 rfl Tryd.ntmps33 rfl (SH.refl _) ?_
  repeat' (first | refine rn ?_ | (apply TL_box; exact rfl; exact rfl; exact rfl; intro _ _) | (apply TL_alloc; exact rfl; intro _ _) | (apply TL_buildSlice; exact rfl; exact rfl; exact rfl; exact rfl; exact rfl; intro _ _))
  refine TC_cond_dec rfl (fun g1 => ?_) (fun g1 => ?_)
  · exfalso; omega
  repeat' (first | refine rn ?_ | (apply TL_box; exact rfl; exact rfl; exact rfl; intro _ _) | (apply TL_alloc; exact rfl; intro _ _) | (apply TL_buildSlice; exact rfl; exact rfl; exact rfl; exact rfl; exact rfl; intro _ _))
  refine TL_index 0 rfl rfl rfl (fun w h => h.sl ha) rfl (by simp) (by simp; omega) ?_
  refine TL_load_el1 (u := x) rfl rfl (fun w h => h.sl ha) rfl rfl ?_
  repeat' (first | refine rn ?_ | (apply TL_box; exact rfl; exact rfl; exact rfl; intro _ _) | (apply TL_alloc; exact rfl; intro _ _) | (apply TL_buildSlice; exact rfl; exact rfl; exact rfl; exact rfl; exact rfl; intro _ _))
  refine TC_loop (σ := Nat) (fun k => k + 1 ≤ n) (fun k => [(0, .slice ao n c), (3, .int .i64 (minL ((x :: t).take (k + 1)))), (4, .int .i64 ((k + 1 : Nat) : Int))]) (fun _ => []) (fun k => n - k) 0 (by omega) sb (fun w h => h) (fun k hk => ?_)
  repeat' (first | refine rn ?_ | (apply TL_box; exact rfl; exact rfl; exact rfl; intro _ _) | (apply TL_alloc; exact rfl; intro _ _) | (apply TL_buildSlice; exact rfl; exact rfl; exact rfl; exact rfl; exact rfl; intro _ _))
  refine TC_cond_dec rfl (fun g2 => ?_) (fun g2 => ?_)
  · have hlt : k + 1 < (x :: t).length := by simp only [List.length_cons]; omega
    obtain ⟨y, hy⟩ : ∃ y, (x :: t)[k + 1]? = some y := ⟨_, List.getElem?_eq_getElem hlt⟩
    have hst := minL_step hy
    repeat' (first | refine rn ?_ | (apply TL_box; exact rfl; exact rfl; exact rfl; intro _ _) | (apply TL_alloc; exact rfl; intro _ _) | (apply TL_buildSlice; exact rfl; exact rfl; exact rfl; exact rfl; exact rfl; intro _ _))
    refine TL_index (k + 1) rfl rfl rfl (fun w h => h.sl ha) rfl hlt (by simp only [List.length_cons]; omega) ?_
    refine TL_load_el1 (u := y) rfl rfl (fun w h => h.sl ha) hy rfl ?_
    repeat' (first | refine rn ?_ | (apply TL_box; exact rfl; exact rfl; exact rfl; intro _ _) | (apply TL_alloc; exact rfl; intro _ _) | (apply TL_buildSlice; exact rfl; exact rfl; exact rfl; exact rfl; exact rfl; intro _ _))
    refine TQ_round (k + 1) (by omega) (by omega) (by (try dsimp only); rw [hst]; exact sb) (fun w h => h)
  have hk2 : (x :: t).take (k + 1) = x :: t := List.take_of_length_le (by simp only [List.length_cons]; omega)
  rw [hk2]
  repeat' (first | refine rn ?_ | (apply TL_box; exact rfl; exact rfl; exact rfl; intro _ _) | (apply TL_alloc; exact rfl; intro _ _) | (apply TL_buildSlice; exact rfl; exact rfl; exact rfl; exact rfl; exact rfl; intro _ _))
  exact TQ_ret1 Tryd.results33 (RV.tmp rfl) (fun w' hs => ⟨rfl, hs.below⟩)
def maxL : List Int → Int
  | [] => 0
  | x :: t => t.foldl max x
theorem maxL_step {x : Int} {t : List Int} {k : Nat} {y : Int} (h : (x :: t)[k + 1]? = some y) : maxL ((x :: t).take (k + 2)) = max (maxL ((x :: t).take (k + 1))) y := by
  have h' : t[k]? = some y := by simpa using h
  rw [List.take_succ_cons, List.take_succ_cons, List.take_add_one, h']
  simp [maxL, List.foldl_append]
theorem c70 (x : Int) (t : List Int) (ao : Option Addr) (c n : Nat) (hn : n = t.length + 1) (hl : n ≤ 1000000) (w : World) (ha : Sl w 1 encI ao (x :: t)) :
    Calls Tryd.prog 34 #[.slice ao n c] w (RetV w (.int .i64 (maxL (x :: t)))) := by
  refine enter (args := [.slice ao n c]) Tryd.func34 rfl Tryd.ntmps34 rfl (SH.refl _) ?_
  repeat' (first | refine rn ?_ | (apply TL_box; exact rfl; exact rfl; exact rfl; intro _ _) | (apply TL_alloc; exact rfl; intro _ _) | (apply TL_buildSlice; exact rfl; exact rfl; exact rfl; exact rfl; exact rfl; intro _ _))
  refine TC_cond_dec rfl (fun g1 => ?_) (fun g1 => ?_)
  · exfalso; omega
  repeat' (first | refine rn ?_ | (apply TL_box; exact rfl; exact rfl; exact rfl; intro _ _) | (apply TL_alloc; exact rfl; intro _ _) | (apply TL_buildSlice; exact rfl; exact rfl; exact rfl; exact rfl; exact rfl; intro _ _))
  refine TL_index 0 rfl rfl rfl (fun w h => h.sl ha) rfl (by simp) (by simp; omega) ?_
  refine TL_load_el1 (u := x) rfl rfl (fun w h => h.sl ha) rfl rfl ?_
  repeat' (first | refine rn ?_ | (apply TL_box; exact rfl; exact rfl; exact rfl; intro _ _) | (apply TL_alloc; exact rfl; intro _ _) | (apply TL_buildSlice; exact rfl; exact rfl; exact rfl; exact rfl; exact rfl; intro _ _))
  refine TC_loop (σ := Nat) (fun k => k + 1 ≤ n) (fun k => [(0, .slice ao n c), (3, .int .i64 (maxL ((x :: t).take (k + 1)))), (4, .int .i64 ((k + 1 : Nat) : Int))]) (fun _ => []) (fun k => n - k) 0 (by omega) sb (fun w h => h) (fun k hk => ?_)
  repeat' (first | refine rn ?_ | (apply TL_box; exact rfl; exact rfl; exact rfl; intro _ _) | (apply TL_alloc; exact rfl; intro _ _) | (apply TL_buildSlice; exact rfl; exact rfl; exact rfl; exact rfl; exact rfl; intro _ _))
  refine TC_cond_dec rfl (fun g2 => ?_) (fun g2 => ?_)
  · have hlt : k + 1 < (x :: t).length := by simp only [List.length_cons]; omega
    obtain ⟨y, hy⟩ : ∃ y, (x :: t)[k + 1]? = some y := ⟨_, List.getElem?_eq_getElem hlt⟩
    have hst := maxL_step hy
    repeat' (first | refine rn ?_ | (apply TL_box; exact rfl; exact rfl; exact rfl; intro _ _) | (apply TL_alloc; exact rfl; intro _ _) | (apply TL_buildSlice; exact rfl; exact rfl; exact rfl; exact rfl; exact rfl; intro _ _))
    refine TL_index (k + 1) rfl rfl rfl (fun w h => h.sl ha) rfl hlt (by simp only [List.length_cons]; omega) ?_
    refine TL_load_el1 (u := y) rfl rfl (fun w h => h.sl ha) hy rfl ?_
    repeat' (first | refine rn ?_ | (apply TL_box; exact rfl; exact rfl; exact rfl; intro _ _) | (apply TL_alloc; exact rfl; intro _ _) | (apply TL_buildSlice; exact rfl; exact rfl; exact rfl; exact rfl; exact rfl; intro _ _))
    refine TQ_round (k + 1) (by omega) (by omega) (by (try dsimp only); rw [hst]; exact sb) (fun w h => h)
  have hk2 : (x :: t).take (k + 1) = x :: t := List.take_of_length_le (by simp only [List.length_cons]; omega)
  rw [hk2]
  repeat' (first | refine rn ?_ | (apply TL_box; exact rfl; exact rfl; exact rfl; intro _ _) | (apply TL_alloc; exact rfl; intro _ _) | (apply TL_buildSlice; exact rfl; exact rfl; exact rfl; exact rfl; exact rfl; intro _ _))
  exact TQ_ret1 Tryd.results34 (RV.tmp rfl) (fun w' hs => ⟨rfl, hs.below⟩)
theorem c69' (L : List Int) (ao : Option Addr) (c : Nat) (hn : L ≠ []) (hl : L.length ≤ 1000000) (w : World) (ha : Sl w 1 encI ao L) :
    Calls Tryd.prog 33 #[.slice ao L.length c] w (RetV w (.int .i64 (minL L))) := by
  cases L with
  | nil => exact absurd rfl hn
  | cons x t => exact c69 x t ao c _ rfl hl w ha
theorem c70' (L : List Int) (ao : Option Addr) (c : Nat) (hn : L ≠ []) (hl : L.length ≤ 1000000) (w : World) (ha : Sl w 1 encI ao L) :
    Calls Tryd.prog 34 #[.slice ao L.length c] w (RetV w (.int .i64 (maxL L))) := by
  cases L with
  | nil => exact absurd rfl hn
  | cons x t => exact c70 x t ao c _ rfl hl w ha
def loE (g : Sp) (x : Int) : List Int := [x / g.1, x / g.2]
def hiE (g : Sp) (x : Int) : List Int := [-(-x / g.1), -(-x / g.2)]
theorem fm_succ {l : List Int} {f : Int → List Int} {i : Nat} {x : Int} (h : l[i]? = some x) : (l.take (i + 1)).flatMap f = (l.take i).flatMap f ++ f x := by
  rw [List.take_add_one, h, List.flatMap_append]; simp
theorem c59 (g : Sp) (l : List Int) (ao : Option Addr) (c : Nat) (hl : l.length ≤ 1000) (hl0 : l ≠ []) (hg : 0 < g.1 ∧ g.1 ≤ g.2 ∧ g.2 ≤ 1000000000) (hx : ∀ x ∈ l, -1000000000000 ≤ x ∧ x ≤ 1000000000000) (w : World) (ha : Sl w 1 encI ao l) :
    Calls Tryd.prog 25 #[.agg (encSp g).toArray, .slice ao l.length c] w (RetV w (.agg (encSp (minL (l.flatMap (loE g)), maxL (l.flatMap (hiE g)))).toArray)) := by
  have fl : ∀ (f : Int → List Int) (m : List Int), (∀ x, (f x).length = 2) → (m.flatMap f).length = m.length * 2 := fun f m h => by
    induction m with
    | nil => rfl
    | cons a m ih => rw [List.flatMap_cons, List.length_append, h, ih, List.length_cons]; omega
  have fl1 := fun m => fl (loE g) m (fun _ => rfl)
  have fl2 := fun m => fl (hiE g) m (fun _ => rfl)
  refine enter (args := [.agg (encSp g).toArray, .slice ao l.length c]) Tryd.func25 rfl Tryd.ntmps25 rfl (SH.refl _) ?_
  repeat' (first | refine rn ?_ | (apply TL_box; exact rfl; exact rfl; exact rfl; intro _ _) | (apply TL_alloc; exact rfl; intro _ _) | (apply TL_buildSlice; exact rfl; exact rfl; exact rfl; exact rfl; exact rfl; intro _ _))
  rename_i b2 _ b4 _
  refine TC_loop (σ := Nat × (Option Addr × Nat × Hp) × (Option Addr × Nat × Hp)) (fun q => q.1 ≤ l.length ∧ Row 3 1 encI q.2.1.1 q.2.1.2.1 q.2.1.2.2 ((l.take q.1).flatMap (loE g)) ∧ Row 3 1 encI q.2.2.1 q.2.2.2.1 q.2.2.2.2 ((l.take q.1).flatMap (hiE g)))
    (fun q => [(2, .pointer (some ⟨b2, 0, none⟩)), (4, .pointer (some ⟨b4, 0, none⟩)), (5, .slice q.2.1.1 ((l.take q.1).flatMap (loE g)).length q.2.1.2.1), (6, .slice q.2.2.1 ((l.take q.1).flatMap (hiE g)).length q.2.2.2.1), (9, .slice ao l.length c), (10, .int .i64 l.length), (11, .int .i64 (q.1 : Nat))])
    (fun q => q.2.1.2.2 ++ (q.2.2.2.2 ++ ([(b4, .cells [.int .i64 0, .int .i64 0] 24), (b2, .cells (encSp g) 24)] : Hp))) (fun q => l.length - q.1) (0, (none, 0, []), (none, 0, [])) ⟨Nat.zero_le _, Row.nil _ _ _, Row.nil _ _ _⟩ sb (fun w h => h) (fun q hq => ?_)
  obtain ⟨i, ⟨so1, sc1, ob1⟩, ⟨so2, sc2, ob2⟩⟩ := q
  obtain ⟨hi, hr1, hr2⟩ := hq
  dsimp only at hi hr1 hr2 ⊢
  have ll1 := fl1 (l.take i)
  have ll2 := fl2 (l.take i)
  have ll3 : (l.take i).length ≤ 1000 := by rw [List.length_take]; omega
  repeat' (first | refine rn ?_ | (apply TL_box; exact rfl; exact rfl; exact rfl; intro _ _) | (apply TL_alloc; exact rfl; intro _ _) | (apply TL_buildSlice; exact rfl; exact rfl; exact rfl; exact rfl; exact rfl; intro _ _))
  refine TC_cond_dec rfl (fun g1 => ?_) (fun g1 => ?_)
  · have hlt : i < l.length := by omega
    obtain ⟨x, hxi⟩ : ∃ x, l[i]? = some x := ⟨_, List.getElem?_eq_getElem hlt⟩
    have hxB := hx x (List.mem_of_getElem? hxi)
    have d1 := div_B (a := -x) (b := g.1) (by omega) (by omega)
    have d2 := div_B (a := -x) (b := g.2) (by omega) (by omega)
    have s1 : (l.take (i + 1)).flatMap (loE g) = (l.take i).flatMap (loE g) ++ [x / g.1, x / g.2] := fm_succ hxi
    have s2 : (l.take (i + 1)).flatMap (hiE g) = (l.take i).flatMap (hiE g) ++ [-(-x / g.1), -(-x / g.2)] := fm_succ hxi
    repeat' (first | refine rn ?_ | (apply TL_box; exact rfl; exact rfl; exact rfl; intro _ _) | (apply TL_alloc; exact rfl; intro _ _) | (apply TL_buildSlice; exact rfl; exact rfl; exact rfl; exact rfl; exact rfl; intro _ _))
    refine TL_index i rfl rfl rfl (fun w h => h.sl ha) rfl hlt (Nat.le_refl _) ?_
    refine TL_load_el1 (u := x) rfl rfl (fun w h => h.sl ha) hxi rfl ?_
    repeat' (first | refine rn ?_ | (apply TL_box; exact rfl; exact rfl; exact rfl; intro _ _) | (apply TL_alloc; exact rfl; intro _ _) | (apply TL_buildSlice; exact rfl; exact rfl; exact rfl; exact rfl; exact rfl; intro _ _))
    apply TC_draw 10; kernel_rfl; exact Tryd.mixed
    · iterate 4 (refine' pv ?_; rotate_left)
      (refine' PG.val rfl rfl (by intro _X; refine TL_callV rfl rfl rfl (fun w _ => c68 (x) g.1 (by omega) (by omega) w) ?_; exact qe) ?_; rotate_left)
      iterate 3 (refine' pv ?_; rotate_left)
      (refine' PG.val rfl rfl (by intro _X; refine TL_callV rfl rfl rfl (fun w _ => c68 (x) g.2 (by omega) (by omega) w) ?_; exact qe) ?_; rotate_left)
      (refine' PG.rel ((fun v h => ∃ b, v = .slice (some ⟨b, 0, none⟩) 2 2 ∧ h = [(b, .cells [.int .i64 (x / g.1), .int .i64 (x / g.2)] 3)])) rfl rfl (by intro _X; apply TL_buildSlice; exact rfl; exact rfl; exact rfl; exact rfl; exact rfl; intro b _; exact TL_nil (TQ_QR (h := [(b, _)]) rfl ⟨b, rfl, rfl⟩ (fun _ h => h))) ?_; rotate_left)
      exact PG.nil
    rintro _ _ ⟨b24, rfl, rfl⟩
    change TL _ _ _ _ _ _ _ _ _ _ _
    refine TL_append (l := (l.take i).flatMap (loE g)) (l2 := [x / g.1, x / g.2]) (enc := encI) (G := _) rfl (by rfl) rfl rfl rfl rfl rfl hr1 (pm_cons pm_here) (fun w h => Sl.of_blk h mm (fun _ _ => rfl) ⟨[], by rfl⟩) (fun u _ => rfl) (by simp only [List.length_cons, List.length_nil]; omega) (by simp only [List.length_cons, List.length_nil, maxLen]; omega) (fun so1' sc1' ob1' hr1' => ?_)
    rw [← s1] at hr1' ⊢
    repeat' (first | refine rn ?_ | (apply TL_box; exact rfl; exact rfl; exact rfl; intro _ _) | (apply TL_alloc; exact rfl; intro _ _) | (apply TL_buildSlice; exact rfl; exact rfl; exact rfl; exact rfl; exact rfl; intro _ _))
    refine TC.weaken (H' := ob2 ++ (ob1' ++ ([(b4, .cells [.int .i64 0, .int .i64 0] 24), (b2, .cells (encSp g) 24)] : Hp))) (Sub.refl _) (fun w h => (h.sub (H' := ob1' ++ (ob2 ++ ([(b4, .cells [.int .i64 0, .int .i64 0] 24), (b2, .cells (encSp g) 24)] : Hp))) (List.Sublist.append_left (List.Sublist.cons _ (List.Sublist.refl _)) _)).perm ?_) ?_
    · rw [← List.append_assoc, ← List.append_assoc]; exact List.Perm.append_right _ List.perm_append_comm
    apply TC_draw 14; kernel_rfl; exact Tryd.mixed
    · iterate 5 (refine' pv ?_; rotate_left)
      (refine' PG.val rfl rfl (by intro _X; refine TL_callV rfl rfl rfl (fun w _ => c68 (-x) g.1 (by omega) (by omega) w) ?_; exact qe) ?_; rotate_left)
      iterate 5 (refine' pv ?_; rotate_left)
      (refine' PG.val rfl rfl (by intro _X; refine TL_callV rfl rfl rfl (fun w _ => c68 (-x) g.2 (by omega) (by omega) w) ?_; exact qe) ?_; rotate_left)
      (refine' pv ?_; rotate_left)
      (refine' PG.rel ((fun v h => ∃ b, v = .slice (some ⟨b, 0, none⟩) 2 2 ∧ h = [(b, .cells [.int .i64 (-(-x / g.1)), .int .i64 (-(-x / g.2))] 3)])) rfl rfl (by intro _X; apply TL_buildSlice; exact rfl; exact rfl; exact rfl; exact rfl; exact rfl; intro b _; exact TL_nil (TQ_QR (h := [(b, _)]) rfl ⟨b, rfl, rfl⟩ (fun _ h => h))) ?_; rotate_left)
      exact PG.nil
    rintro _ _ ⟨b39, rfl, rfl⟩
    change TL _ _ _ _ _ _ _ _ _ _ _
    refine TL_append (l := (l.take i).flatMap (hiE g)) (l2 := [-(-x / g.1), -(-x / g.2)]) (enc := encI) (G := _) rfl (by rfl) rfl rfl rfl rfl rfl hr2 (pm_cons pm_here) (fun w h => Sl.of_blk h mm (fun _ _ => rfl) ⟨[], by rfl⟩) (fun u _ => rfl) (by simp only [List.length_cons, List.length_nil]; omega) (by simp only [List.length_cons, List.length_nil, maxLen]; omega) (fun so' sc' ob' hrow' => ?_)
    rw [← s2] at hrow' ⊢
    repeat' (first | refine rn ?_ | (apply TL_box; exact rfl; exact rfl; exact rfl; intro _ _) | (apply TL_alloc; exact rfl; intro _ _) | (apply TL_buildSlice; exact rfl; exact rfl; exact rfl; exact rfl; exact rfl; intro _ _))
    refine TQ_round (i + 1, (so1', sc1', ob1'), (so', sc', ob')) ⟨hlt, hr1', hrow'⟩ (by dsimp only; omega) sb (fun w h => (h.sub (H' := ob' ++ (ob1' ++ ([(b4, .cells [.int .i64 0, .int .i64 0] 24), (b2, .cells (encSp g) 24)] : Hp))) (List.Sublist.append_left (List.Sublist.cons _ (List.Sublist.refl _)) _)).perm (by rw [← List.append_assoc, ← List.append_assoc]; exact List.Perm.append_right _ List.perm_append_comm))
  have hk2 : l.take i = l := List.take_of_length_le (by omega)
  rw [hk2] at hr1 hr2 ll1 ll2 ⊢
  have hn1 : l.flatMap (loE g) ≠ [] := fun h => hl0 (List.eq_nil_of_length_eq_zero (by rw [h, List.length_nil] at ll1; omega))
  have hn2 : l.flatMap (hiE g) ≠ [] := fun h => hl0 (List.eq_nil_of_length_eq_zero (by rw [h, List.length_nil] at ll2; omega))
  repeat' (first | refine rn ?_ | (apply TL_box; exact rfl; exact rfl; exact rfl; intro _ _) | (apply TL_alloc; exact rfl; intro _ _) | (apply TL_buildSlice; exact rfl; exact rfl; exact rfl; exact rfl; exact rfl; intro _ _))
  refine TL_callV rfl rfl rfl (fun w h => c69' _ _ _ hn1 (by omega) w (hr1.sl h (fun x hx => by repeat (first | exact List.mem_append_left _ hx | apply List.mem_append_right | apply List.mem_cons_of_mem)))) ?_
  repeat' (first | refine rn ?_ | (apply TL_box; exact rfl; exact rfl; exact rfl; intro _ _) | (apply TL_alloc; exact rfl; intro _ _) | (apply TL_buildSlice; exact rfl; exact rfl; exact rfl; exact rfl; exact rfl; intro _ _))
  refine TL_callV rfl rfl rfl (fun w h => c70' _ _ _ hn2 (by omega) w (hr2.sl h (fun x hx => by repeat (first | exact List.mem_append_left _ hx | apply List.mem_append_right | apply List.mem_cons_of_mem)))) ?_
  repeat' (first | refine rn ?_ | (apply TL_box; exact rfl; exact rfl; exact rfl; intro _ _) | (apply TL_alloc; exact rfl; intro _ _) | (apply TL_buildSlice; exact rfl; exact rfl; exact rfl; exact rfl; exact rfl; intro _ _))
  exact TQ_ret1 Tryd.results25 (RV.celln rfl mm (by rfl)) (fun w' hs => ⟨rfl, hs.below⟩)
theorem ends_slope {f g : Sp} (hf : f.1 ≤ f.2) (h0 : 0 < g.1) (hg : g.1 ≤ g.2) : (minL ([1000 * f.1, 1000 * f.2].flatMap (loE g)), maxL ([1000 * f.1, 1000 * f.2].flatMap (hiE g))) = slopeR f g := by
  have e1 : minL ([1000 * f.1, 1000 * f.2].flatMap (loE g)) = min (min (min (1000 * f.1 / g.1) (1000 * f.1 / g.2)) (1000 * f.2 / g.1)) (1000 * f.2 / g.2) := rfl
  have e2 : maxL ([1000 * f.1, 1000 * f.2].flatMap (hiE g)) = max (max (max (-(-(1000 * f.1) / g.1)) (-(-(1000 * f.1) / g.2))) (-(-(1000 * f.2) / g.1))) (-(-(1000 * f.2) / g.2)) := rfl
  rw [e1, e2, min_ends (by omega) h0 hg, max_ends (by omega) h0 hg]
  unfold slopeR
  rw [Int.mul_comm 1000 f.1, Int.mul_comm 1000 f.2]
  congr 1
  · split <;> split <;> first | rfl | (exfalso; omega)
  · split <;> split <;> first | rfl | (exfalso; omega)
end Go.Proofs.YtoolblbdmmiahaaDoor
