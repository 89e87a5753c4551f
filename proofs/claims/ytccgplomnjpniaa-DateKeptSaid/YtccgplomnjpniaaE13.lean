/- Walks: what becomes of dates; what a bunch yields. -/
import Derived.Test.YtccgplomnjpniaaE12
namespace Go.Proofs.Ytccgplomnjpniaa
open Go Go.Eng Go.RowKit Go.Proofs
set_option maxHeartbeats 1000000
set_option maxRecDepth 10000
attribute [local irreducible] TL TC TQ

def restR (f : Ft) (n i : Nat) : Int × Int := if f.keep < (n : Int) - 1 - i then (1, f.keep + 1) else (2, (n : Int) - 1 - i)
def cutAt (l : List Int) (i : Int) : Option Int := l.find? (fun c => decide (i ≤ c))
/-- What becomes of the dates of day i: which way they go, after how many days. -/
def fateR (f : Ft) (n : Nat) (l : List Int) (i : Nat) : Int × Int := match cutAt l i with
  | some c => if c - i ≤ f.keep then (0, c - i) else restR f n i
  | none => restR f n i
def encFa (q : Int × Int) : List Value := [.int .i64 q.1, .int .i64 q.2]
theorem cutAt_some {l : List Int} {i : Int} {q : Nat} {x : Int} (hx : l[q]? = some x) (h1 : ∀ (j : Nat) y, j < q → l[j]? = some y → y < i) (h2 : i ≤ x) : cutAt l i = some x := by
  induction l generalizing q with
  | nil => simp at hx
  | cons y l ih =>
    cases q with
    | zero => simp at hx; subst hx; simp [cutAt, h2]
    | succ q =>
      have h3 := h1 0 y (by omega) rfl
      have := ih (q := q) (by simpa using hx) (fun j z hj hz => h1 (j + 1) z (by omega) (by simpa using hz))
      unfold cutAt at this ⊢
      rw [List.find?_cons, decide_eq_false (by omega)]
      exact this
theorem cutAt_none {l : List Int} {i : Int} (h1 : ∀ (j : Nat) y, l[j]? = some y → y < i) : cutAt l i = none := by
  unfold cutAt
  rw [List.find?_eq_none]
  intro x hx
  obtain ⟨j, hj⟩ := List.getElem?_of_mem hx
  have := h1 j x hj
  simp; omega
structure CutsOk (n : Nat) (l : List Int) : Prop where
  len : l.length ≤ 1000000
  inn : ∀ x ∈ l, 0 ≤ x ∧ x ≤ (n : Int) - 1
  mono : ∀ (i j : Nat) x y, i ≤ j → l[i]? = some x → l[j]? = some y → x ≤ y
theorem cutsB_ok {n : Nat} {l : List Int} (hl : l.length ≤ 1000000) (h : cutsB n 0 l = true) : CutsOk n l := by
  have h' := (cutsB_ref n l).1 h
  refine ⟨hl, fun x hx => ?_, fun i j x y hij hx hy => ?_⟩
  · obtain ⟨i, hi⟩ := List.getElem?_of_mem hx
    exact (h' i x hi).1
  · have key : ∀ (d i : Nat) (x y : Int), l[i]? = some x → l[i + d]? = some y → x ≤ y := by
      intro d
      induction d with
      | zero => intro i x y h1 h2; rw [Nat.add_zero, h1] at h2; cases h2; omega
      | succ d ih =>
        intro i x y h1 h2
        obtain ⟨z, hz⟩ : ∃ z, l[i + d]? = some z := ⟨_, List.getElem?_eq_getElem (by have := (List.getElem?_eq_some_iff.1 h2).1; omega)⟩
        have := ih i x z h1 hz
        have := (h' (i + (d + 1)) y h2).2 (i + d) z (by omega) hz
        omega
    obtain ⟨d, rfl⟩ := Nat.exists_eq_add_of_le hij
    exact key d i x y hx hy

theorem c97 {B : Nat} {w0 : World} (f : Ft) (b : Bn) (ao : Option Addr) (c : Nat) (l : List Int) (lo : Option Addr) (lc : Nat) (bt bc lp : Nat) (Z Y : Nat → Hp) (hf : OkFt f) (hn : b.ripe.length ≤ 12) (hl : CutsOk b.ripe.length l)
    (hsl : ∀ {w : World} {H : Hp}, SH B w0 w H → Sl w 1 encI lo l)
    (hp : ∀ j, ((bt, .cells (encTr f b ao c) 110) :: (bc, .cells [.slice lo l.length lc] 47) :: Z j).Perm (Y j))
    (hy : Yld Try.prog B w0 lp b.ripe.length (fun j => [.int .i64 j, .agg (encFa (fateR f b.ripe.length l j)).toArray]) Y) (w : World) (hs : SH B w0 w (Y 0)) :
    Calls Try.prog 97 #[.func (.yield lp) #[] #[], .pointer (some ⟨bt, 0, none⟩), .pointer (some ⟨bc, 0, none⟩)] w (RetP B w0 (fun _ : Unit => .tuple #[]) (fun _ => Y b.ripe.length) (fun _ => True)) := by
  have hkp := hf.2.2.2.2.2.1
  simp only [In] at hkp
  refine enter (args := [.func (.yield lp) #[] #[], .pointer (some ⟨bt, 0, none⟩), .pointer (some ⟨bc, 0, none⟩)]) Try.func97 rfl Try.ntmps97 rfl (hs.perm (hp 0)) ?_
  repeat' (first | refine rn ?_ | (apply TL_box; exact rfl; exact rfl; exact rfl; intro _ _) | (apply TL_alloc; exact rfl; intro _ _) | (apply TL_buildSlice; exact rfl; exact rfl; exact rfl; exact rfl; exact rfl; intro _ _))
  refine TC_loop (σ := Nat) (fun k => k ≤ b.ripe.length) (fun k => [(0, .func (.yield lp) #[] #[]), (1, .pointer (some ⟨bt, 0, none⟩)), (2, .pointer (some ⟨bc, 0, none⟩)), (4, .int .i64 ((b.ripe.length : Int) - 1)), (17, .int .i64 b.ripe.length), (18, .int .i64 k)])
    (fun k => (bt, .cells (encTr f b ao c) 110) :: (bc, .cells [.slice lo l.length lc] 47) :: Z k) (fun k => b.ripe.length - k) 0 (Nat.zero_le _) sb (fun w h => h) (fun k hk => ?_)
  repeat' (first | refine rn ?_ | (apply TL_box; exact rfl; exact rfl; exact rfl; intro _ _) | (apply TL_alloc; exact rfl; intro _ _) | (apply TL_buildSlice; exact rfl; exact rfl; exact rfl; exact rfl; exact rfl; intro _ _))
  refine TC_cond_dec rfl (fun h1 => ?_) (fun h1 => ?_)
  · have hlt : k < b.ripe.length := by omega
    repeat' (first | refine rn ?_ | (apply TL_box; exact rfl; exact rfl; exact rfl; intro _ _) | (apply TL_alloc; exact rfl; intro _ _) | (apply TL_buildSlice; exact rfl; exact rfl; exact rfl; exact rfl; exact rfl; intro _ _))
    rename_i b6 _
    refine TC_join (σ := Unit) (fun _ => True) (fun _ => [(0, .func (.yield lp) #[] #[]), (1, .pointer (some ⟨bt, 0, none⟩)), (2, .pointer (some ⟨bc, 0, none⟩)), (4, .int .i64 ((b.ripe.length : Int) - 1)), (5, .int .i64 k), (6, .pointer (some ⟨b6, 0, none⟩)), (17, .int .i64 b.ripe.length), (18, .int .i64 k)])
      (fun _ => (b6, .cells (encFa (restR f b.ripe.length k)) 136) :: (bt, .cells (encTr f b ao c) 110) :: (bc, .cells [.slice lo l.length lc] 47) :: Z k) ?_ (fun _ _ => ?_)
    · refine TC_cond_dec rfl (fun h2 => ?_) (fun h2 => ?_)
      · repeat' (first | refine rn ?_ | (apply TL_box; exact rfl; exact rfl; exact rfl; intro _ _) | (apply TL_alloc; exact rfl; intro _ _) | (apply TL_buildSlice; exact rfl; exact rfl; exact rfl; exact rfl; exact rfl; intro _ _))
        refine TQ_mid () trivial sb (fun w h => ?_)
        have e : restR f b.ripe.length k = (1, f.keep + 1) := by unfold restR; rw [if_pos h2]
        rw [e]; exact h
      · repeat' (first | refine rn ?_ | (apply TL_box; exact rfl; exact rfl; exact rfl; intro _ _) | (apply TL_alloc; exact rfl; intro _ _) | (apply TL_buildSlice; exact rfl; exact rfl; exact rfl; exact rfl; exact rfl; intro _ _))
        refine TQ_mid () trivial sb (fun w h => ?_)
        have e : restR f b.ripe.length k = (2, (b.ripe.length : Int) - 1 - k) := by unfold restR; rw [if_neg h2]
        rw [e]; exact h
    repeat' (first | refine rn ?_ | (apply TL_box; exact rfl; exact rfl; exact rfl; intro _ _) | (apply TL_alloc; exact rfl; intro _ _) | (apply TL_buildSlice; exact rfl; exact rfl; exact rfl; exact rfl; exact rfl; intro _ _))
    refine TL_callN rfl rfl rfl (fun w h => c98 l lo lc k hl.len hl.mono w (hsl h)) ?_
    rintro ⟨q, bq⟩ ⟨hq1, hq2, hq3⟩
    dsimp only at hq1 hq2 hq3 ⊢
    repeat' (first | refine rn ?_ | (apply TL_box; exact rfl; exact rfl; exact rfl; intro _ _) | (apply TL_alloc; exact rfl; intro _ _) | (apply TL_buildSlice; exact rfl; exact rfl; exact rfl; exact rfl; exact rfl; intro _ _))
    refine TC_join (σ := Bool) (fun p => (p = true → ∃ x, l[q]? = some x ∧ In x 0 1000000 ∧ fateR f b.ripe.length l k = (0, x - k)) ∧ (p = false → fateR f b.ripe.length l k = restR f b.ripe.length k)) (fun p => [(0, .func (.yield lp) #[] #[]), (1, .pointer (some ⟨bt, 0, none⟩)), (2, .pointer (some ⟨bc, 0, none⟩)), (4, .int .i64 ((b.ripe.length : Int) - 1)), (5, .int .i64 k), (6, .pointer (some ⟨b6, 0, none⟩)), (17, .int .i64 b.ripe.length), (18, .int .i64 k), (7, .int .i64 q), (58, .bool p)])
      (fun _ => (b6, .cells (encFa (restR f b.ripe.length k)) 136) :: (bt, .cells (encTr f b ao c) 110) :: (bc, .cells [.slice lo l.length lc] 47) :: Z k) ?_ (fun p hpp => ?_)
    · by_cases h3 : q < l.length
      · obtain ⟨x, hx⟩ : ∃ x, l[q]? = some x := ⟨_, List.getElem?_eq_getElem h3⟩
        have hxi := hl.inn x (List.mem_of_getElem? hx)
        have hkx := hq3 q x (Nat.le_refl _) hx
        have hcut := cutAt_some hx hq2 hkx
        apply TC_draw 16; kernel_rfl; exact Try.mixed
        · iterate 3 (refine' pv ?_; rotate_left)
          (refine' PG.val rfl rfl (by intro _X; refine TL_lss_t rfl rfl rfl (by omega) ?_; exact qe) ?_; rotate_left)
          (refine' pv ?_; rotate_left)
          iterate 2 (refine' pg ?_; rotate_left)
          (refine' PG.val rfl rfl (by intro _X; (refine TL_guard_yes rfl rfl rfl ?_); refine TL_index q rfl rfl rfl (fun w h => hsl h) rfl h3 (Nat.le_refl _) ?_; exact qe) ?_; rotate_left)
          (refine' PG.val rfl rfl (by intro _X; (refine TL_guard_yes rfl rfl rfl ?_); refine TL_load_el1 (u := x) rfl rfl (fun w h => hsl h) hx rfl ?_; exact qe) ?_; rotate_left)
          iterate 6 (refine' pg ?_; rotate_left)
          (refine' pv ?_; rotate_left)
          exact PG.nil
        change TL _ _ _ _ _ _ _ _ _ _ _
        repeat' (first | refine rn ?_ | (apply TL_box; exact rfl; exact rfl; exact rfl; intro _ _) | (apply TL_alloc; exact rfl; intro _ _) | (apply TL_buildSlice; exact rfl; exact rfl; exact rfl; exact rfl; exact rfl; intro _ _))
        refine TQ_mid (decide (x - k ≤ f.keep)) ⟨fun h => ⟨x, hx, ⟨by omega, by omega⟩, ?_⟩, fun h => ?_⟩ sb (fun w h => h)
        · unfold fateR; rw [hcut]; exact if_pos (of_decide_eq_true h)
        · unfold fateR; rw [hcut]; exact if_neg (of_decide_eq_false h)
      · have hcut : cutAt l k = none := cutAt_none (fun j y hj => hq2 j y (by have := (List.getElem?_eq_some_iff.1 hj).1; omega) hj)
        apply TC_draw 16; kernel_rfl; exact Try.mixed
        · iterate 3 (refine' pv ?_; rotate_left)
          (refine' PG.val rfl rfl (by intro _X; refine TL_lss_f rfl rfl rfl (by omega) ?_; exact qe) ?_; rotate_left)
          iterate 12 (refine' pv ?_; rotate_left)
          exact PG.nil
        change TL _ _ _ _ _ _ _ _ _ _ _
        repeat' (first | refine rn ?_ | (apply TL_box; exact rfl; exact rfl; exact rfl; intro _ _) | (apply TL_alloc; exact rfl; intro _ _) | (apply TL_buildSlice; exact rfl; exact rfl; exact rfl; exact rfl; exact rfl; intro _ _))
        refine TQ_mid false ⟨fun h => (by cases h), fun _ => ?_⟩ sb (fun w h => h)
        unfold fateR; rw [hcut]
    repeat' (first | refine rn ?_ | (apply TL_box; exact rfl; exact rfl; exact rfl; intro _ _) | (apply TL_alloc; exact rfl; intro _ _) | (apply TL_buildSlice; exact rfl; exact rfl; exact rfl; exact rfl; exact rfl; intro _ _))
    refine TC_join (σ := Unit) (fun _ => True) (fun _ => [(0, .func (.yield lp) #[] #[]), (1, .pointer (some ⟨bt, 0, none⟩)), (2, .pointer (some ⟨bc, 0, none⟩)), (4, .int .i64 ((b.ripe.length : Int) - 1)), (5, .int .i64 k), (6, .pointer (some ⟨b6, 0, none⟩)), (17, .int .i64 b.ripe.length), (18, .int .i64 k)])
      (fun _ => (b6, .cells (encFa (fateR f b.ripe.length l k)) 136) :: (bt, .cells (encTr f b ao c) 110) :: (bc, .cells [.slice lo l.length lc] 47) :: Z k) ?_ (fun _ _ => ?_)
    · refine TC_cond rfl (fun h4 => ?_) (fun h4 => ?_)
      · obtain ⟨x, hx, hxi, e⟩ := hpp.1 h4
        simp only [In] at hxi
        repeat' (first | refine rn ?_ | (apply TL_box; exact rfl; exact rfl; exact rfl; intro _ _) | (apply TL_alloc; exact rfl; intro _ _) | (apply TL_buildSlice; exact rfl; exact rfl; exact rfl; exact rfl; exact rfl; intro _ _))
        refine TL_index q rfl rfl rfl (fun w h => hsl h) rfl (List.getElem?_eq_some_iff.1 hx).1 (Nat.le_refl _) ?_
        refine TL_load_el1 (u := x) rfl rfl (fun w h => hsl h) hx rfl ?_
        repeat' (first | refine rn ?_ | (apply TL_box; exact rfl; exact rfl; exact rfl; intro _ _) | (apply TL_alloc; exact rfl; intro _ _) | (apply TL_buildSlice; exact rfl; exact rfl; exact rfl; exact rfl; exact rfl; intro _ _))
        refine TQ_mid () trivial sb (fun w h => ?_)
        rw [e]; exact h
      · repeat' (first | refine rn ?_ | (apply TL_box; exact rfl; exact rfl; exact rfl; intro _ _) | (apply TL_alloc; exact rfl; intro _ _) | (apply TL_buildSlice; exact rfl; exact rfl; exact rfl; exact rfl; exact rfl; intro _ _))
        refine TQ_mid () trivial sb (fun w h => ?_)
        rw [hpp.2 h4]; exact h
    repeat' (first | refine rn ?_ | (apply TL_box; exact rfl; exact rfl; exact rfl; intro _ _) | (apply TL_alloc; exact rfl; intro _ _) | (apply TL_buildSlice; exact rfl; exact rfl; exact rfl; exact rfl; exact rfl; intro _ _))
    refine TL_yield rfl rfl rfl hy k [(b6, .cells (encFa (fateR f b.ripe.length l k)) 136)] hlt rfl (List.perm_append_comm.trans ((hp k).symm.cons _)) ?_
    refine TL.weaken (Sub.refl _) (fun w h => h.perm (((hp (k + 1)).cons _).trans (List.perm_append_comm (l₁ := [_])))) ?_
    repeat' (first | refine rn ?_ | (apply TL_box; exact rfl; exact rfl; exact rfl; intro _ _) | (apply TL_alloc; exact rfl; intro _ _) | (apply TL_buildSlice; exact rfl; exact rfl; exact rfl; exact rfl; exact rfl; intro _ _))
    exact TQ_round (k + 1) hlt (by omega) sb (fun w h => h.sub (List.Sublist.cons _ (List.Sublist.refl _)))
  · have hkl : k = b.ripe.length := by omega
    subst hkl
    repeat' (first | refine rn ?_ | (apply TL_box; exact rfl; exact rfl; exact rfl; intro _ _) | (apply TL_alloc; exact rfl; intro _ _) | (apply TL_buildSlice; exact rfl; exact rfl; exact rfl; exact rfl; exact rfl; intro _ _))
    exact TQ_end0 Try.results97 (fun w' hs => ⟨(), trivial, rfl, hs.perm (hp _).symm⟩)
end Go.Proofs.Ytccgplomnjpniaa
