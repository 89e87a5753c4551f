/- Walks: inside, choose; plain law of what is kept; the walk of the statement DateKept. -/
import Derived.Test.YtccgplomnjpniaaE26
namespace Go.Proofs.Ytccgplomnjpniaa
open Go Go.Eng Go.RowKit Go.Proofs
set_option maxHeartbeats 4000000
set_option maxRecDepth 10000
attribute [local irreducible] TL TC TQ

/-- A number of 32 bits. -/
def U32 := { n : Int // 0 ≤ n ∧ n ≤ 4294967295 }
def encU (n : U32) : List Value := [.int .u32 n.1]
def chooseR (by_ : List U32) (i : Int) : Int := if i < by_.length then ((by_[i.toNat]?).map (·.1)).getD 0 else 0
def insideR (s : Sp) (n : Int) : Int := s.1 + n % (s.2 - s.1 + 1)
theorem choose_rg (l : List U32) (i : Int) : 0 ≤ chooseR l i ∧ chooseR l i ≤ 4294967295 := by
  unfold chooseR
  split
  · cases h : l[i.toNat]? with
    | none => simp
    | some x => simpa using x.2
  · omega
theorem inside_rg {s : Sp} {n : Int} (hs : s.1 ≤ s.2) (hn : 0 ≤ n) : s.1 ≤ insideR s n ∧ insideR s n ≤ s.2 := by
  unfold insideR
  have h1 := Int.emod_nonneg n (show s.2 - s.1 + 1 ≠ 0 by omega)
  have h2 := Int.emod_lt_of_pos n (show 0 < s.2 - s.1 + 1 by omega)
  omega
theorem c38 (l : List U32) (i : Int) (hi : 0 ≤ i) (ao : Option Addr) (c : Nat) (hl : l.length ≤ 9223372036854775807) (w : World) (ha : Sl w 1 encU ao l) :
    Calls Try.prog 38 #[.slice ao l.length c, .int .i64 i] w (RetV w (.int .u32 (chooseR l i))) := by
  refine enter (args := [.slice ao l.length c, .int .i64 i]) Try.func38 rfl Try.ntmps38 rfl (SH.refl _) ?_
  repeat' (first | refine rn ?_ | (apply TL_box; exact rfl; exact rfl; exact rfl; intro _ _) | (apply TL_alloc; exact rfl; intro _ _) | (apply TL_buildSlice; exact rfl; exact rfl; exact rfl; exact rfl; exact rfl; intro _ _))
  refine TC_cond_dec rfl (fun h1 => ?_) (fun h1 => ?_)
  · have hlt : i.toNat < l.length := by omega
    obtain ⟨x, hx⟩ : ∃ x, l[i.toNat]? = some x := ⟨_, List.getElem?_eq_getElem hlt⟩
    have e : chooseR l i = x.1 := by unfold chooseR; rw [if_pos h1, hx]; rfl
    rw [e]
    obtain ⟨k, rfl⟩ : ∃ k : Nat, i = k := ⟨i.toNat, by omega⟩
    repeat' (first | refine rn ?_ | (apply TL_box; exact rfl; exact rfl; exact rfl; intro _ _) | (apply TL_alloc; exact rfl; intro _ _) | (apply TL_buildSlice; exact rfl; exact rfl; exact rfl; exact rfl; exact rfl; intro _ _))
    refine TL_index k rfl rfl rfl (fun w h => h.sl ha) rfl hlt (Nat.le_refl _) ?_
    refine TL_load_el1 (u := x) rfl rfl (fun w h => h.sl ha) hx rfl ?_
    repeat' (first | refine rn ?_ | (apply TL_box; exact rfl; exact rfl; exact rfl; intro _ _) | (apply TL_alloc; exact rfl; intro _ _) | (apply TL_buildSlice; exact rfl; exact rfl; exact rfl; exact rfl; exact rfl; intro _ _))
    exact TQ_ret1 Try.results38 (RV.tmp rfl) (fun w' hs => ⟨rfl, hs.below⟩)
  · have e : chooseR l i = 0 := by unfold chooseR; rw [if_neg h1]
    rw [e]
    repeat' (first | refine rn ?_ | (apply TL_box; exact rfl; exact rfl; exact rfl; intro _ _) | (apply TL_alloc; exact rfl; intro _ _) | (apply TL_buildSlice; exact rfl; exact rfl; exact rfl; exact rfl; exact rfl; intro _ _))
    exact TQ_ret1 Try.results38 (RV.tmp rfl) (fun w' hs => ⟨rfl, hs.below⟩)
theorem c37 (s : Sp) (n : Int) (hs1 : 0 ≤ s.1) (hs : s.1 ≤ s.2) (hs2 : s.2 ≤ 1000000000) (hn : 0 ≤ n ∧ n ≤ 4294967295) (w : World) :
    Calls Try.prog 37 #[.agg (encSp s).toArray, .int .u32 n] w (RetV w (.int .i64 (insideR s n))) := by
  have hr := inside_rg hs hn.1
  have h1 := Int.emod_nonneg n (show s.2 - s.1 + 1 ≠ 0 by omega)
  have h2 := Int.emod_lt_of_pos n (show 0 < s.2 - s.1 + 1 by omega)
  refine enter (args := [.agg (encSp s).toArray, .int .u32 n]) Try.func37 rfl Try.ntmps37 rfl (SH.refl _) ?_
  repeat' (first | refine rn ?_ | (apply TL_box; exact rfl; exact rfl; exact rfl; intro _ _) | (apply TL_alloc; exact rfl; intro _ _) | (apply TL_buildSlice; exact rfl; exact rfl; exact rfl; exact rfl; exact rfl; intro _ _))
  apply TC_draw 12; kernel_rfl; exact Try.mixed
  · iterate 3 (refine' pv ?_; rotate_left)
    (refine' PG.val rfl rfl (by intro _X; refine TL_conv_same rfl rfl (wrap_i64_nn hn.1 (by omega)) ?_; exact qe) ?_; rotate_left)
    iterate 8 (refine' pv ?_; rotate_left)
    exact PG.nil
  change TL _ _ _ _ _ _ _ _ _ _ _
  repeat' (first | refine rn ?_ | (apply TL_box; exact rfl; exact rfl; exact rfl; intro _ _) | (apply TL_alloc; exact rfl; intro _ _) | (apply TL_buildSlice; exact rfl; exact rfl; exact rfl; exact rfl; exact rfl; intro _ _))
  exact TQ_ret1 Try.results37 (RV.tmp rfl) (fun w' hs => ⟨rfl, hs.below⟩)

/-- What there is after so many seasons. -/
def stN (R : Rd) (g : Int) : Nat → St
  | 0 => (R.fod, R.dung)
  | k + 1 => match R.seas[k]? with
    | some x => nextR R g (stN R g k) x
    | none => stN R g k
theorem runR_ok (R : Rd) (g : Int) : ∀ (l : List Sn) (i : Nat) (acc : List St), R.seas.drop i = l → acc.length = i → (∀ k, k < i → acc[k]? = some (stN R g (k + 1))) →
    (runR R g l i (stN R g i) acc).2.2 = 0 →
    (runR R g l i (stN R g i) acc).1.length = i + l.length ∧ (∀ k, k < i + l.length → (runR R g l i (stN R g i) acc).1[k]? = some (stN R g (k + 1))) ∧
    ∀ k x, i ≤ k → R.seas[k]? = some x → ¬ (stN R g k).2.1 < x.2 ∧ ¬ (stN R g k).1.1 + x.1.1 + x.2 * R.boost.1 / 1000 < g * R.eats.2 := by
  intro l
  induction l with
  | nil =>
    intro i acc hd ha hk _
    refine ⟨by simp [runR, ha], by simpa [runR] using hk, fun k x hik hx => ?_⟩
    have := List.drop_eq_nil_iff.1 hd
    have h2 := (List.getElem?_eq_some_iff.1 hx).1
    omega
  | cons x l ih =>
    intro i acc hd ha hk h0
    have hx : R.seas[i]? = some x := by
      have : (R.seas.drop i)[0]? = some x := by rw [hd]; rfl
      simpa using this
    have hst : stN R g (i + 1) = nextR R g (stN R g i) x := by rw [stN, hx]
    simp only [runR, stepR] at h0 ⊢
    by_cases h1 : (stN R g i).2.1 < x.2
    · rw [if_pos h1] at h0; simp at h0
    rw [if_neg h1] at h0 ⊢
    by_cases h2 : (stN R g i).1.1 + x.1.1 + x.2 * R.boost.1 / 1000 < g * R.eats.2
    · rw [if_pos h2] at h0; simp at h0
    rw [if_neg h2] at h0 ⊢
    simp only at h0 ⊢
    rw [← hst] at h0 ⊢
    have hd' : R.seas.drop (i + 1) = l := by
      rw [← List.drop_drop, hd]; rfl
    obtain ⟨q1, q2, q3⟩ := ih (i + 1) (acc ++ [stN R g (i + 1)]) hd' (by simp [ha]) (fun k hk' => by
      rcases Nat.lt_or_ge k i with h | h
      · rw [List.getElem?_append_left (by omega)]; exact hk k h
      · have : k = i := by omega
        subst this
        rw [List.getElem?_append_right (by omega)]; simp [ha]) h0
    refine ⟨by rw [q1]; simp; omega, fun k hk' => q2 k (by simp at hk'; omega), fun k y hik hy => ?_⟩
    rcases Nat.lt_or_ge i k with h | h
    · exact q3 k y h hy
    · have : k = i := by omega
      subst this
      rw [hx] at hy; cases hy
      exact ⟨h1, h2⟩
theorem runR_bad (R : Rd) (g : Int) : ∀ (l : List Sn) (i : Nat) (s : St) (acc : List St), (runR R g l i s acc).2.2 ≠ 0 →
    ((runR R g l i s acc).2.2 = 85 ∨ (runR R g l i s acc).2.2 = 84) ∧ (runR R g l i s acc).1 = [] ∧ (runR R g l i s acc).2.1 < i + l.length := by
  intro l
  induction l with
  | nil => intro i s acc h; simp [runR] at h
  | cons x l ih =>
    intro i s acc h
    simp only [runR, stepR] at h ⊢
    split at h
    · rename_i e he
      split at he
      · cases he; simp
      · split at he
        · cases he; simp
        · cases he
    · rename_i s' he
      have := ih (i + 1) s' _ h
      refine ⟨this.1, this.2.1, ?_⟩
      have := this.2.2
      simp; omega
theorem stN_bd {R : Rd} {g : Int} (hR : OkRd R) (hg : In g 0 1000) (h : ∀ k x, R.seas[k]? = some x → ¬ (stN R g k).2.1 < x.2 ∧ ¬ (stN R g k).1.1 + x.1.1 + x.2 * R.boost.1 / 1000 < g * R.eats.2) : ∀ k, k ≤ R.seas.length → Bd k (stN R g k) := by
  intro k
  induction k with
  | zero =>
    intro _
    obtain ⟨h1, h2, _⟩ := hR
    simp only [Ord, In] at h1 h2
    simp only [Bd, stN]
    omega
  | succ k ih =>
    intro hk
    obtain ⟨x, hx⟩ : ∃ x, R.seas[k]? = some x := ⟨_, List.getElem?_eq_getElem (by omega)⟩
    have hn := h k x hx
    refine (ih (by omega)).step (prods hR.run hg (List.mem_of_getElem? hx)) (s' := stN R g (k + 1)) ?_
    rw [stepR, if_neg hn.1, if_neg hn.2, stN, hx]
/-- The choices of a season stay within the bounds, before the goats. -/
structure Mid (R : Rd) (g : Int) (s : St) (x : Sn) (F D : Int) : Prop where
  f1 : 1000 * (s.1.1 + x.1.1) + x.2 * R.boost.1 ≤ F
  f2 : F ≤ 1000 * (s.1.2 + x.1.2) + x.2 * R.boost.2
  d1 : 1000 * (s.2.1 - x.2) ≤ D
  d2 : D ≤ 1000 * (s.2.2 - x.2)
theorem c12 (R : Rd) (ao : Option Addr) (c : Nat) (g : Int) (hg : 0 ≤ g ∧ g ≤ 255) (by_ : List U32) (bo : Option Addr) (bc : Nat) (hl : R.seas.length ≤ 9223372036854775807) (hlb : by_.length ≤ 9223372036854775807) (w : World) (ha : Sl w 3 encSn ao R.seas) (hb : Sl w 1 encU bo by_) :
    Calls Try.prog 12 #[.agg (encRd R ao c).toArray, .int .u8 g, .slice bo by_.length bc] w (RetV w (.bool true)) := by
  refine enter (args := [.agg (encRd R ao c).toArray, .int .u8 g, .slice bo by_.length bc]) Try.func12 rfl Try.ntmps12 rfl (SH.refl _) ?_
  repeat' (first | refine rn ?_ | (apply TL_box; exact rfl; exact rfl; exact rfl; intro _ _) | (apply TL_alloc; exact rfl; intro _ _) | (apply TL_buildSlice; exact rfl; exact rfl; exact rfl; exact rfl; exact rfl; intro _ _))
  refine TL_callV rfl rfl rfl (fun w _ => c31 w) ?_
  repeat' (first | (refine TL_conv_same rfl rfl (wrap_i64_nn hg.1 (by omega)) ?_) | refine r1 ?_ | (apply TL_box; exact rfl; exact rfl; exact rfl; intro _ _) | (apply TL_alloc; exact rfl; intro _ _) | (apply TL_buildSlice; exact rfl; exact rfl; exact rfl; exact rfl; exact rfl; intro _ _))
  generalize hn : g % 201 = n
  have hn0 : 0 ≤ n ∧ n ≤ 200 := by omega
  refine TL_callV rfl rfl rfl (fun w h => c44w R ao c hl w (h.sl ha)) ?_
  repeat' (first | refine rn ?_ | (apply TL_box; exact rfl; exact rfl; exact rfl; intro _ _) | (apply TL_alloc; exact rfl; intro _ _) | (apply TL_buildSlice; exact rfl; exact rfl; exact rfl; exact rfl; exact rfl; intro _ _))
  refine TL_gsplit_dec rfl rfl (fun g1 => ?_) (fun g1 => ?_)
  · repeat' (first | refine rn ?_ | (apply TL_box; exact rfl; exact rfl; exact rfl; intro _ _) | (apply TL_alloc; exact rfl; intro _ _) | (apply TL_buildSlice; exact rfl; exact rfl; exact rfl; exact rfl; exact rfl; intro _ _))
    exact TQ_ret1 Try.results12 (RV.tmp rfl) (fun w' hs => ⟨rfl, hs.below⟩)
  repeat' (first | refine rn ?_ | (apply TL_box; exact rfl; exact rfl; exact rfl; intro _ _) | (apply TL_alloc; exact rfl; intro _ _) | (apply TL_buildSlice; exact rfl; exact rfl; exact rfl; exact rfl; exact rfl; intro _ _))
  have hR : OkRd R := Classical.not_not.1 g1
  have hR' := hR
  obtain ⟨u1, u2, u3, u4, u5, u6, u7⟩ := hR'
  simp only [Ord, In] at u1 u2 u3 u4 u5
  have hlen : R.seas.length ≤ 20 := by omega
  have c15' := fun w h => c15 R n ao c (by omega) w h
  rw [goR_run hR (by omega) (by omega)] at c15'
  refine TL_callN rfl rfl rfl (fun w h => c15' w (h.sl ha)) ?_
  rintro ⟨so, sc, ob⟩ hrow
  replace hrow : Row 97 4 encSt so sc ob (runAll R n).1 := hrow
  dsimp only [runV]
  by_cases he : (runAll R n).2.2 = 0
  · have hok := runR_ok R n R.seas 0 [] rfl rfl (fun k h => by omega) he
    change (runAll R n).1.length = _ ∧ (∀ k, k < _ → (runAll R n).1[k]? = _) ∧ _ at hok
    obtain ⟨k1, k2, k3⟩ := hok
    simp only [Nat.zero_add] at k1 k2
    have hbd := stN_bd hR ⟨hn0.1, by omega⟩ (fun k x hx => k3 k x (Nat.zero_le _) hx)
    have hk1 : (((runAll R n).1.length : Nat) : Int) = ((R.seas.length : Nat) : Int) := by rw [k1]
    repeat' (first | (refine TL_neq_f rfl rfl rfl he ?_) | (refine TL_neq_f rfl rfl rfl hk1 ?_) | refine r1 ?_ | (apply TL_box; exact rfl; exact rfl; exact rfl; intro _ _) | (apply TL_alloc; exact rfl; intro _ _) | (apply TL_buildSlice; exact rfl; exact rfl; exact rfl; exact rfl; exact rfl; intro _ _))
    have i1 := inside_rg (s := R.fod) (n := chooseR by_ 0) (by omega) (choose_rg by_ 0).1
    have i2 := inside_rg (s := R.dung) (n := chooseR by_ 1) (by omega) (choose_rg by_ 1).1
    apply TC_draw 13; kernel_rfl; exact Try.mixed
    · iterate 3 (refine' pv ?_; rotate_left)
      (refine' PG.val rfl rfl (by intro _X; refine TL_callV rfl rfl rfl (fun w h => c38 by_ 0 (by omega) bo bc hlb w (h.sl hb)) ?_; exact qe) ?_; rotate_left)
      (refine' PG.val rfl rfl (by intro _X; refine TL_callV rfl rfl rfl (fun w _ => c37 R.fod _ (by omega) (by omega) (by omega) (choose_rg by_ 0) w) ?_; exact qe) ?_; rotate_left)
      iterate 4 (refine' pv ?_; rotate_left)
      (refine' PG.val rfl rfl (by intro _X; refine TL_callV rfl rfl rfl (fun w h => c38 by_ 1 (by omega) bo bc hlb w (h.sl hb)) ?_; exact qe) ?_; rotate_left)
      (refine' PG.val rfl rfl (by intro _X; refine TL_callV rfl rfl rfl (fun w _ => c37 R.dung _ (by omega) (by omega) (by omega) (choose_rg by_ 1) w) ?_; exact qe) ?_; rotate_left)
      (refine' pv ?_; rotate_left)
      (refine' pv ?_; rotate_left)
      exact PG.nil
    change TL _ _ _ _ _ _ _ _ _ _ _
    repeat' (first | refine rn ?_ | (apply TL_box; exact rfl; exact rfl; exact rfl; intro _ _) | (apply TL_alloc; exact rfl; intro _ _) | (apply TL_buildSlice; exact rfl; exact rfl; exact rfl; exact rfl; exact rfl; intro _ _))
    generalize insideR R.fod (chooseR by_ 0) = v1 at i1 ⊢
    generalize insideR R.dung (chooseR by_ 1) = v2 at i2 ⊢
    rename_i b _
    refine TC_loop (σ := Nat × Int × Int) (fun q => q.1 ≤ R.seas.length ∧ 1000 * (stN R n q.1).1.1 ≤ q.2.1 ∧ q.2.1 ≤ 1000 * (stN R n q.1).1.2 ∧ 1000 * (stN R n q.1).2.1 ≤ q.2.2 ∧ q.2.2 ≤ 1000 * (stN R n q.1).2.2)
      (fun q => [(2, .slice bo by_.length bc), (3, .pointer (some ⟨b, 0, none⟩)), (7, .bool true), (8, .int .i64 n), (9, .slice so (runAll R n).1.length sc), (12, .int .i64 q.2.1), (13, .int .i64 q.2.2), (82, .slice ao R.seas.length c), (83, .int .i64 R.seas.length), (84, .int .i64 q.1)])
      (fun q => ob ++ [(b, .cells (encRd R ao c) 26)]) (fun q => R.seas.length - q.1) (0, 1000 * v1, 1000 * v2) ⟨Nat.zero_le _, by simp only [stN]; omega⟩ sb (fun w h => h) (fun q hq => ?_)
    obtain ⟨k, F, D⟩ := q
    obtain ⟨q1, q2, q3, q4, q5⟩ := hq
    dsimp only at q1 q2 q3 q4 q5 ⊢
    repeat' (first | refine rn ?_ | (apply TL_box; exact rfl; exact rfl; exact rfl; intro _ _) | (apply TL_alloc; exact rfl; intro _ _) | (apply TL_buildSlice; exact rfl; exact rfl; exact rfl; exact rfl; exact rfl; intro _ _))
    refine TC_cond_dec rfl (fun h1 => ?_) (fun h1 => ?_)
    · have hlt : k < R.seas.length := by omega
      obtain ⟨x, hx⟩ : ∃ x, R.seas[k]? = some x := ⟨_, List.getElem?_eq_getElem hlt⟩
      have hxm : x ∈ R.seas := List.mem_of_getElem? hx
      have hne : R.seas ≠ [] := by intro h; simp [h] at hlt
      have hpr := prods hR.run ⟨hn0.1, by omega⟩ hxm
      obtain ⟨p1, p2, p3, p4, p5, p6, p7, p8, p9⟩ := hpr
      have hox := u7 x hxm
      simp only [Ord, In] at hox
      have hk3 := k3 k x (Nat.zero_le _) hx
      have hb1 := hbd k q1
      have hb2 := hbd (k + 1) (by omega)
      have hst : stN R n (k + 1) = nextR R n (stN R n k) x := by rw [stN, hx]
      have hst1 : (runAll R n).1[k]? = some (stN R n (k + 1)) := k2 k hlt
      rw [hst] at hst1 hb2
      generalize stN R n k = s at q2 q3 q4 q5 hk3 hb1 hb2 hst hst1
      simp only [Bd, nextR] at hb1 hb2
      repeat' (first | refine rn ?_ | (apply TL_box; exact rfl; exact rfl; exact rfl; intro _ _) | (apply TL_alloc; exact rfl; intro _ _) | (apply TL_buildSlice; exact rfl; exact rfl; exact rfl; exact rfl; exact rfl; intro _ _))
      refine TL_index k rfl rfl rfl (fun w h => h.sl ha) rfl hlt (Nat.le_refl _) ?_
      refine TL_load_eln (u := x) rfl rfl (fun w h => h.sl ha) hx rfl ?_
      repeat' (first | (refine TL_lss_f rfl rfl rfl (by omega) ?_) | refine r1 ?_ | (apply TL_box; exact rfl; exact rfl; exact rfl; intro _ _) | (apply TL_alloc; exact rfl; intro _ _) | (apply TL_buildSlice; exact rfl; exact rfl; exact rfl; exact rfl; exact rfl; intro _ _))
      have i3 := inside_rg (s := x.1) (n := chooseR by_ (4 * (k : Int) + 2)) (by omega) (choose_rg by_ (4 * (k : Int) + 2)).1
      have i4 := inside_rg (s := R.boost) (n := chooseR by_ (4 * (k : Int) + 3)) (by omega) (choose_rg by_ (4 * (k : Int) + 3)).1
      have i5 := mulB hox.2.1 hox.2.2 (show 0 ≤ insideR R.boost (chooseR by_ (4 * (k : Int) + 3)) by omega) (show _ ≤ 1000 by omega)
      have i6 : x.2 * R.boost.1 ≤ x.2 * insideR R.boost (chooseR by_ (4 * (k : Int) + 3)) := Int.mul_le_mul_of_nonneg_left i4.1 hox.2.1
      have i7 : x.2 * insideR R.boost (chooseR by_ (4 * (k : Int) + 3)) ≤ x.2 * R.boost.2 := Int.mul_le_mul_of_nonneg_left i4.2 hox.2.1
      apply TC_draw 23; kernel_rfl; exact Try.mixed
      · iterate 7 (refine' pv ?_; rotate_left)
        (refine' PG.val rfl rfl (by intro _X; refine TL_callV rfl rfl rfl (fun w h => c38 by_ (4 * (k : Int) + 2) (by omega) bo bc hlb w (h.sl hb)) ?_; exact qe) ?_; rotate_left)
        (refine' PG.val rfl rfl (by intro _X; refine TL_callV rfl rfl rfl (fun w _ => c37 x.1 _ (by omega) (by omega) (by omega) (choose_rg by_ (4 * (k : Int) + 2)) w) ?_; exact qe) ?_; rotate_left)
        iterate 9 (refine' pv ?_; rotate_left)
        (refine' PG.val rfl rfl (by intro _X; refine TL_callV rfl rfl rfl (fun w h => c38 by_ (4 * (k : Int) + 3) (by omega) bo bc hlb w (h.sl hb)) ?_; exact qe) ?_; rotate_left)
        (refine' PG.val rfl rfl (by intro _X; refine TL_callV rfl rfl rfl (fun w _ => c37 R.boost _ (by omega) (by omega) (by omega) (choose_rg by_ (4 * (k : Int) + 3)) w) ?_; exact qe) ?_; rotate_left)
        iterate 3 (refine' pv ?_; rotate_left)
        exact PG.nil
      change TL _ _ _ _ _ _ _ _ _ _ _
      repeat' (first | refine rn ?_ | (apply TL_box; exact rfl; exact rfl; exact rfl; intro _ _) | (apply TL_alloc; exact rfl; intro _ _) | (apply TL_buildSlice; exact rfl; exact rfl; exact rfl; exact rfl; exact rfl; intro _ _))
      generalize hF1 : F + (1000 * insideR x.1 (chooseR by_ (4 * (k : Int) + 2)) + x.2 * insideR R.boost (chooseR by_ (4 * (k : Int) + 3))) = F1
      generalize hD1 : D - 1000 * x.2 = D1
      rename_i b15 _
      refine TC_loop (σ := Nat × Int × Int) (fun q => (q.1 : Int) ≤ n ∧ F1 - 1000 * (q.1 * R.eats.2) ≤ q.2.1 ∧ q.2.1 ≤ F1 - 1000 * (q.1 * R.eats.1) ∧ D1 + 1000 * (q.1 * R.gives.1) ≤ q.2.2 ∧ q.2.2 ≤ D1 + 1000 * (q.1 * R.gives.2))
        (fun q => [(2, .slice bo by_.length bc), (3, .pointer (some ⟨b, 0, none⟩)), (7, .bool true), (8, .int .i64 n), (9, .slice so (runAll R n).1.length sc), (12, .int .i64 q.2.1), (13, .int .i64 q.2.2), (14, .int .i64 k), (82, .slice ao R.seas.length c), (83, .int .i64 R.seas.length), (84, .int .i64 k), (119, .int .i64 n), (120, .int .i64 q.1)])
        (fun q => ob ++ [(b, .cells (encRd R ao c) 26)]) (fun q => n.toNat - q.1) (0, F1, D1) ⟨by simp; omega, by simp⟩ sb (fun w h => h.sub (List.sublist_cons_self _ _)) (fun q hq => ?_)
      obtain ⟨m, G, E⟩ := q
      obtain ⟨t1, t2, t3, t4, t5⟩ := hq
      dsimp only at t1 t2 t3 t4 t5 ⊢
      have z1 : 0 ≤ (m : Int) * R.eats.1 ∧ (m : Int) * R.eats.1 ≤ 1000 * 1000 := mulB (by omega) (by omega) (by omega) (by omega)
      have z2 : 0 ≤ (m : Int) * R.eats.2 ∧ (m : Int) * R.eats.2 ≤ 1000 * 1000 := mulB (by omega) (by omega) (by omega) (by omega)
      have z3 : 0 ≤ (m : Int) * R.gives.1 ∧ (m : Int) * R.gives.1 ≤ 1000 * 1000 := mulB (by omega) (by omega) (by omega) (by omega)
      have z4 : 0 ≤ (m : Int) * R.gives.2 ∧ (m : Int) * R.gives.2 ≤ 1000 * 1000 := mulB (by omega) (by omega) (by omega) (by omega)
      repeat' (first | refine rn ?_ | (apply TL_box; exact rfl; exact rfl; exact rfl; intro _ _) | (apply TL_alloc; exact rfl; intro _ _) | (apply TL_buildSlice; exact rfl; exact rfl; exact rfl; exact rfl; exact rfl; intro _ _))
      refine TC_cond_dec rfl (fun h2 => ?_) (fun h2 => ?_)
      · repeat' (first | refine rn ?_ | (apply TL_box; exact rfl; exact rfl; exact rfl; intro _ _) | (apply TL_alloc; exact rfl; intro _ _) | (apply TL_buildSlice; exact rfl; exact rfl; exact rfl; exact rfl; exact rfl; intro _ _))
        have j1 := inside_rg (s := R.eats) (n := chooseR by_ (4 * (k : Int) + (m : Int) + 4)) (by omega) (choose_rg by_ (4 * (k : Int) + (m : Int) + 4)).1
        have j2 := inside_rg (s := R.gives) (n := chooseR by_ (4 * (k : Int) + (m : Int) + 5)) (by omega) (choose_rg by_ (4 * (k : Int) + (m : Int) + 5)).1
        apply TC_draw 13; kernel_rfl; exact Try.mixed
        · iterate 9 (refine' pv ?_; rotate_left)
          (refine' PG.val rfl rfl (by intro _X; refine TL_callV rfl rfl rfl (fun w h => c38 by_ (4 * (k : Int) + (m : Int) + 4) (by omega) bo bc hlb w (h.sl hb)) ?_; exact qe) ?_; rotate_left)
          (refine' PG.val rfl rfl (by intro _X; refine TL_callV rfl rfl rfl (fun w _ => c37 R.eats _ (by omega) (by omega) (by omega) (choose_rg by_ (4 * (k : Int) + (m : Int) + 4)) w) ?_; exact qe) ?_; rotate_left)
          iterate 2 (refine' pv ?_; rotate_left)
          exact PG.nil
        change TL _ _ _ _ _ _ _ _ _ _ _
        repeat' (first | refine rn ?_ | (apply TL_box; exact rfl; exact rfl; exact rfl; intro _ _) | (apply TL_alloc; exact rfl; intro _ _) | (apply TL_buildSlice; exact rfl; exact rfl; exact rfl; exact rfl; exact rfl; intro _ _))
        apply TC_draw 13; kernel_rfl; exact Try.mixed
        · iterate 9 (refine' pv ?_; rotate_left)
          (refine' PG.val rfl rfl (by intro _X; refine TL_callV rfl rfl rfl (fun w h => c38 by_ (4 * (k : Int) + (m : Int) + 5) (by omega) bo bc hlb w (h.sl hb)) ?_; exact qe) ?_; rotate_left)
          (refine' PG.val rfl rfl (by intro _X; refine TL_callV rfl rfl rfl (fun w _ => c37 R.gives _ (by omega) (by omega) (by omega) (choose_rg by_ (4 * (k : Int) + (m : Int) + 5)) w) ?_; exact qe) ?_; rotate_left)
          iterate 2 (refine' pv ?_; rotate_left)
          exact PG.nil
        change TL _ _ _ _ _ _ _ _ _ _ _
        repeat' (first | refine rn ?_ | (apply TL_box; exact rfl; exact rfl; exact rfl; intro _ _) | (apply TL_alloc; exact rfl; intro _ _) | (apply TL_buildSlice; exact rfl; exact rfl; exact rfl; exact rfl; exact rfl; intro _ _))
        refine TQ_round (m + 1, G - 1000 * insideR R.eats (chooseR by_ (4 * (k : Int) + (m : Int) + 4)), E + 1000 * insideR R.gives (chooseR by_ (4 * (k : Int) + (m : Int) + 5))) ?_ (by dsimp only; omega) sb (fun w h => h)
        have e : ∀ y : Int, ((m + 1 : Nat) : Int) * y = m * y + y := fun y => by rw [Int.natCast_add, Int.add_mul]; simp
        dsimp only
        simp only [e]
        omega
      · have hm : (m : Int) = n := by omega
        rw [hm] at t2 t3 t4 t5 z1 z2 z3 z4
        obtain ⟨y, hy⟩ : ∃ y, y = nextR R n s x := ⟨_, rfl⟩
        rw [← hy] at hst1 hst
        have y1 : y.1.1 = s.1.1 + x.1.1 + x.2 * R.boost.1 / 1000 - n * R.eats.2 := by rw [hy]; rfl
        have y2 : y.1.2 = s.1.2 + x.1.2 + (x.2 * R.boost.2 + 999) / 1000 - n * R.eats.1 := by rw [hy]; rfl
        have y3 : y.2.1 = s.2.1 - x.2 + n * R.gives.1 := by rw [hy]; rfl
        have y4 : y.2.2 = s.2.2 - x.2 + n * R.gives.2 := by rw [hy]; rfl
        have f0 : 1000 * y.1.1 ≤ G := by omega
        have f1 : 0 ≤ y.1.1 := by omega
        have f2 : G ≤ 1000 * y.1.2 := by omega
        have f3 : 1000 * y.2.1 ≤ E := by omega
        have f4 : E ≤ 1000 * y.2.2 := by omega
        have f5 : y.1.1 ≤ 1000000000 ∧ -1000000000 ≤ y.1.2 ∧ y.1.2 ≤ 1000000000 ∧ -1000000000 ≤ y.2.1 ∧ y.2.1 ≤ 1000000000 ∧ -1000000000 ≤ y.2.2 ∧ y.2.2 ≤ 1000000000 := by omega
        have hlt2 : k < (runAll R n).1.length := by omega
        have hne2 : (runAll R n).1 ≠ [] := by intro h; simp [h] at hlt2
        clear hb1 hb2 hF1 hD1 i3 i4 i5 i6 i7 t2 t3 t4 t5 z1 z2 z3 z4 q2 q3 q4 q5 hk3 p1 p2 p3 p4 p5 p6 p7 p8 p9
        iterate 4
          repeat' (first | (refine TL_lss_f rfl rfl rfl (by omega) ?_) | (refine TL_gtr_f rfl rfl rfl (by omega) ?_) | refine r1 ?_ | (apply TL_box; exact rfl; exact rfl; exact rfl; intro _ _) | (apply TL_alloc; exact rfl; intro _ _) | (apply TL_buildSlice; exact rfl; exact rfl; exact rfl; exact rfl; exact rfl; intro _ _))
          refine TL_index k rfl rfl rfl (fun w h => hrow.sl h (fun p hp => (by repeat (first | exact List.mem_append_left _ hp | apply List.mem_append_right | apply List.mem_cons_of_mem)))) rfl hlt2 (Nat.le_refl _) ?_
          refine r1 ?_
          refine TL_fieldAddr_el rfl rfl (fun w h => hrow.sl h (fun p hp => (by repeat (first | exact List.mem_append_left _ hp | apply List.mem_append_right | apply List.mem_cons_of_mem)))) hne2 ?_
          refine r1 ?_
          refine TL_fieldAddr_el rfl rfl (fun w h => hrow.sl h (fun p hp => (by repeat (first | exact List.mem_append_left _ hp | apply List.mem_append_right | apply List.mem_cons_of_mem)))) hne2 ?_
          refine r1 ?_
          refine TL_load_el1 (u := y) rfl rfl (fun w h => hrow.sl h (fun p hp => (by repeat (first | exact List.mem_append_left _ hp | apply List.mem_append_right | apply List.mem_cons_of_mem)))) hst1 rfl ?_
        repeat' (first | (refine TL_lss_f rfl rfl rfl (by omega) ?_) | (refine TL_gtr_f rfl rfl rfl (by omega) ?_) | refine r1 ?_ | (apply TL_box; exact rfl; exact rfl; exact rfl; intro _ _) | (apply TL_alloc; exact rfl; intro _ _) | (apply TL_buildSlice; exact rfl; exact rfl; exact rfl; exact rfl; exact rfl; intro _ _))
        refine TQ_round (k + 1, G, E) ⟨hlt, ?_⟩ (by dsimp only; omega) sb (fun w h => h)
        dsimp only
        rw [hst]
        exact ⟨f0, f2, f3, f4⟩
    · repeat' (first | refine rn ?_ | (apply TL_box; exact rfl; exact rfl; exact rfl; intro _ _) | (apply TL_alloc; exact rfl; intro _ _) | (apply TL_buildSlice; exact rfl; exact rfl; exact rfl; exact rfl; exact rfl; intro _ _))
      exact TQ_ret1 Try.results12 (RV.tmp rfl) (fun w' hs => ⟨rfl, hs.below⟩)
  · have hbad := runR_bad R n R.seas 0 (R.fod, R.dung) [] he
    change (_ = _ ∨ _) ∧ (runAll R n).1 = [] ∧ (runAll R n).2.1 < _ at hbad
    obtain ⟨b1, b2, b3⟩ := hbad
    change (runAll R n).2.2 = 85 ∨ (runAll R n).2.2 = 84 at b1
    rw [b2]
    rcases b1 with b1 | b1
    · rw [b1]
      repeat' (first | (refine TL_geq_t rfl rfl rfl (by omega) ?_) | (refine TL_lss_t rfl rfl rfl (by omega) ?_) | refine r1 ?_ | (apply TL_box; exact rfl; exact rfl; exact rfl; intro _ _) | (apply TL_alloc; exact rfl; intro _ _) | (apply TL_buildSlice; exact rfl; exact rfl; exact rfl; exact rfl; exact rfl; intro _ _))
      exact TQ_ret1 Try.results12 (RV.tmp rfl) (fun w' hs => ⟨rfl, hs.below⟩)
    · rw [b1]
      repeat' (first | (refine TL_geq_t rfl rfl rfl (by omega) ?_) | (refine TL_lss_t rfl rfl rfl (by omega) ?_) | refine r1 ?_ | (apply TL_box; exact rfl; exact rfl; exact rfl; intro _ _) | (apply TL_alloc; exact rfl; intro _ _) | (apply TL_buildSlice; exact rfl; exact rfl; exact rfl; exact rfl; exact rfl; intro _ _))
      exact TQ_ret1 Try.results12 (RV.tmp rfl) (fun w' hs => ⟨rfl, hs.below⟩)
end Go.Proofs.Ytccgplomnjpniaa
