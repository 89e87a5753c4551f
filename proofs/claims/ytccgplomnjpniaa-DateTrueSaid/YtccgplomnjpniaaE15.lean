/- Walks: what becomes of dates; what a bunch yields. -/
import Derived.Test.YtccgplomnjpniaaE12
namespace Go.Proofs.Ytccgplomnjpniaa
open Go Go.Eng Go.RowKit Go.Proofs
set_option maxHeartbeats 1000000
set_option maxRecDepth 10000
attribute [local irreducible] TL TC TQ

def restR (f : Ft) (n i : Nat) : Int × Int := if f.keep < (n : Int) - 1 - i then (1, f.keep + 1) else (2, (n : Int) - 1 - i)
def cutAt (l : List Int) (i : Int) : Option Int := l.find? (fun c => decide (i ≤ c))
/-- What becomes of the dates of day i: which way they go, after how many days. -/
def fateR (f : Ft) (n : Nat) (l : List Int) (i : Nat) : Int × Int := match cutAt l i with
  | some c => if c - i ≤ f.keep then (0, c - i) else restR f n i
  | none => restR f n i
def encFa (q : Int × Int) : List Value := [.int .i64 q.1, .int .i64 q.2]
theorem cutAt_some {l : List Int} {i : Int} {q : Nat} {x : Int} (hx : l[q]? = some x) (h1 : ∀ (j : Nat) y, j < q → l[j]? = some y → y < i) (h2 : i ≤ x) : cutAt l i = some x := by
  induction l generalizing q with
  | nil => simp at hx
  | cons y l ih =>
    cases q with
    | zero => simp at hx; subst hx; simp [cutAt, h2]
    | succ q =>
      have h3 := h1 0 y (by omega) rfl
      have := ih (q := q) (by simpa using hx) (fun j z hj hz => h1 (j + 1) z (by omega) (by simpa using hz))
      unfold cutAt at this ⊢
      rw [List.find?_cons, decide_eq_false (by omega)]
      exact this
theorem cutAt_none {l : List Int} {i : Int} (h1 : ∀ (j : Nat) y, l[j]? = some y → y < i) : cutAt l i = none := by
  unfold cutAt
  rw [List.find?_eq_none]
  intro x hx
  obtain ⟨j, hj⟩ := List.getElem?_of_mem hx
  have := h1 j x hj
  simp; omega
structure CutsOk (n : Nat) (l : List Int) : Prop where
  len : l.length ≤ 1000000
  inn : ∀ x ∈ l, 0 ≤ x ∧ x ≤ (n : Int) - 1
  mono : ∀ (i j : Nat) x y, i ≤ j → l[i]? = some x → l[j]? = some y → x ≤ y
theorem cutsB_ok {n : Nat} {l : List Int} (hl : l.length ≤ 1000000) (h : cutsB n 0 l = true) : CutsOk n l := by
  have h' := (cutsB_ref n l).1 h
  refine ⟨hl, fun x hx => ?_, fun i j x y hij hx hy => ?_⟩
  · obtain ⟨i, hi⟩ := List.getElem?_of_mem hx
    exact (h' i x hi).1
  · have key : ∀ (d i : Nat) (x y : Int), l[i]? = some x → l[i + d]? = some y → x ≤ y := by
      intro d
      induction d with
      | zero => intro i x y h1 h2; rw [Nat.add_zero, h1] at h2; cases h2; omega
      | succ d ih =>
        intro i x y h1 h2
        obtain ⟨z, hz⟩ : ∃ z, l[i + d]? = some z := ⟨_, List.getElem?_eq_getElem (by have := (List.getElem?_eq_some_iff.1 h2).1; omega)⟩
        have := ih i x z h1 hz
        have := (h' (i + (d + 1)) y h2).2 (i + d) z (by omega) hz
        omega
    obtain ⟨d, rfl⟩ := Nat.exists_eq_add_of_le hij
    exact key d i x y hx hy

theorem c97 {B : Nat} {w0 : World} (f : Ft) (b : Bn) (ao : Option Addr) (c : Nat) (l : List Int) (lo : Option Addr) (lc : Nat) (bt bc lp : Nat) (Z Y : Nat → Hp) (hf : OkFt f) (hn : b.ripe.length ≤ 12) (hl : CutsOk b.ripe.length l)
    (hsl : ∀ {w : World} {H : Hp}, SH B w0 w H → Sl w 1 encI lo l)
    (hp : ∀ j, ((bt, .cells (encTr f b ao c) 110) :: (bc, .cells [.slice lo l.length lc] 47) :: Z j).Perm (Y j))
    (hy : Yld Try.prog B w0 lp b.ripe.length (fun j => [.int .i64 j, .agg (encFa (fateR f b.ripe.length l j)).toArray]) Y) (w : World) (hs : SH B w0 w (Y 0)) :
    Calls Try.prog 97 #[.func (.yield lp) #[] #[], .pointer (some ⟨bt, 0, none⟩), .pointer (some ⟨bc, 0, none⟩)] w (RetP B w0 (fun _ : Unit => .tuple #[]) (fun _ => Y b.ripe.length) (fun _ => True)) := by
  have hkp := hf.2.2.2.2.2.1
  simp only [In] at hkp
  refine enter (args := [.func (.yield lp) #[] #[], .pointer (some ⟨bt, 0, none⟩), .pointer (some ⟨bc, 0, none⟩)]) Try.func97 rfl Try.ntmps97 rfl (hs.perm (hp 0)) ?_
  repeat' (first | refine rn ?_ | (apply TL_box; exact rfl; exact rfl; exact rfl; intro _ _) | (apply TL_alloc; exact rfl; intro _ _) | (apply TL_buildSlice; exact rfl; exact rfl; exact rfl; exact rfl; exact rfl; intro _ _))
  refine TC_loop (σ := Nat) (fun k => k ≤ b.ripe.length) (fun k => [(0, .func (.yield lp) #[] #[]), (1, .pointer (some ⟨bt, 0, none⟩)), (2, .pointer (some ⟨bc, 0, none⟩)), (4, .int .i64 ((b.ripe.length : Int) - 1)), (17, .int .i64 b.ripe.length), (18, .int .i64 k)])
    (fun k => (bt, .cells (encTr f b ao c) 110) :: (bc, .cells [.slice lo l.length lc] 47) :: Z k) (fun k => b.ripe.length - k) 0 (Nat.zero_le _) sb (fun w h => h) (fun k hk => ?_)
  repeat' (first | refine rn ?_ | (apply TL_box; exact rfl; exact rfl; exact rfl; intro _ _) | (apply TL_alloc; exact rfl; intro _ _) | (apply TL_buildSlice; exact rfl; exact rfl; exact rfl; exact rfl; exact rfl; intro _ _))
  refine TC_cond_dec rfl (fun h1 => ?_) (fun h1 => ?_)
  · have hlt : k < b.ripe.length := by omega
    repeat' (first | refine rn ?_ | (apply TL_box; exact rfl; exact rfl; exact rfl; intro _ _) | (apply TL_alloc; exact rfl; intro _ _) | (apply TL_buildSlice; exact rfl; exact rfl; exact rfl; exact rfl; exact rfl; intro _ _))
    rename_i b6 _
    refine TC_join (σ := Unit) (fun _ => True) (fun _ => [(0, .func (.yield lp) #[] #[]), (1, .pointer (some ⟨bt, 0, none⟩)), (2, .pointer (some ⟨bc, 0, none⟩)), (4, .int .i64 ((b.ripe.length : Int) - 1)), (5, .int .i64 k), (6, .pointer (some ⟨b6, 0, none⟩)), (17, .int .i64 b.ripe.length), (18, .int .i64 k)])
      (fun _ => (b6, .cells (encFa (restR f b.ripe.length k)) 136) :: (bt, .cells (encTr f b ao c) 110) :: (bc, .cells [.slice lo l.length lc] 47) :: Z k) ?_ (fun _ _ => ?_)
    · refine TC_cond_dec rfl (fun h2 => ?_) (fun h2 => ?_)
      · repeat' (first | refine rn ?_ | (apply TL_box; exact rfl; exact rfl; exact rfl; intro _ _) | (apply TL_alloc; exact rfl; intro _ _) | (apply TL_buildSlice; exact rfl; exact rfl; exact rfl; exact rfl; exact rfl; intro _ _))
        refine TQ_mid () trivial sb (fun w h => ?_)
        have e : restR f b.ripe.length k = (1, f.keep + 1) := by unfold restR; rw [if_pos h2]
        rw [e]; exact h
      · repeat' (first | refine rn ?_ | (apply TL_box; exact rfl; exact rfl; exact rfl; intro _ _) | (apply TL_alloc; exact rfl; intro _ _) | (apply TL_buildSlice; exact rfl; exact rfl; exact rfl; exact rfl; exact rfl; intro _ _))
        refine TQ_mid () trivial sb (fun w h => ?_)
        have e : restR f b.ripe.length k = (2, (b.ripe.length : Int) - 1 - k) := by unfold restR; rw [if_neg h2]
        rw [e]; exact h
    repeat' (first | refine rn ?_ | (apply TL_box; exact rfl; exact rfl; exact rfl; intro _ _) | (apply TL_alloc; exact rfl; intro _ _) | (apply TL_buildSlice; exact rfl; exact rfl; exact rfl; exact rfl; exact rfl; intro _ _))
    refine TL_callN rfl rfl rfl (fun w h => c98 l lo lc k hl.len hl.mono w (hsl h)) ?_
    rintro ⟨q, bq⟩ ⟨hq1, hq2, hq3⟩
    dsimp only at hq1 hq2 hq3 ⊢
    repeat' (first | refine rn ?_ | (apply TL_box; exact rfl; exact rfl; exact rfl; intro _ _) | (apply TL_alloc; exact rfl; intro _ _) | (apply TL_buildSlice; exact rfl; exact rfl; exact rfl; exact rfl; exact rfl; intro _ _))
    refine TC_join (σ := Bool) (fun p => (p = true → ∃ x, l[q]? = some x ∧ In x 0 1000000 ∧ fateR f b.ripe.length l k = (0, x - k)) ∧ (p = false → fateR f b.ripe.length l k = restR f b.ripe.length k)) (fun p => [(0, .func (.yield lp) #[] #[]), (1, .pointer (some ⟨bt, 0, none⟩)), (2, .pointer (some ⟨bc, 0, none⟩)), (4, .int .i64 ((b.ripe.length : Int) - 1)), (5, .int .i64 k), (6, .pointer (some ⟨b6, 0, none⟩)), (17, .int .i64 b.ripe.length), (18, .int .i64 k), (7, .int .i64 q), (58, .bool p)])
      (fun _ => (b6, .cells (encFa (restR f b.ripe.length k)) 136) :: (bt, .cells (encTr f b ao c) 110) :: (bc, .cells [.slice lo l.length lc] 47) :: Z k) ?_ (fun p hpp => ?_)
    · by_cases h3 : q < l.length
      · obtain ⟨x, hx⟩ : ∃ x, l[q]? = some x := ⟨_, List.getElem?_eq_getElem h3⟩
        have hxi := hl.inn x (List.mem_of_getElem? hx)
        have hkx := hq3 q x (Nat.le_refl _) hx
        have hcut := cutAt_some hx hq2 hkx
        apply TC_draw 16; kernel_rfl; exact Try.mixed
        · iterate 3 (refine' pv ?_; rotate_left)
          (refine' PG.val rfl rfl (by intro _X; refine TL_lss_t rfl rfl rfl (by omega) ?_; exact qe) ?_; rotate_left)
          (refine' pv ?_; rotate_left)
          iterate 2 (refine' pg ?_; rotate_left)
          (refine' PG.val rfl rfl (by intro _X; (refine TL_guard_yes rfl rfl rfl ?_); refine TL_index q rfl rfl rfl (fun w h => hsl h) rfl h3 (Nat.le_refl _) ?_; exact qe) ?_; rotate_left)
          (refine' PG.val rfl rfl (by intro _X; (refine TL_guard_yes rfl rfl rfl ?_); refine TL_load_el1 (u := x) rfl rfl (fun w h => hsl h) hx rfl ?_; exact qe) ?_; rotate_left)
          iterate 6 (refine' pg ?_; rotate_left)
          (refine' pv ?_; rotate_left)
          exact PG.nil
        change TL _ _ _ _ _ _ _ _ _ _ _
        repeat' (first | refine rn ?_ | (apply TL_box; exact rfl; exact rfl; exact rfl; intro _ _) | (apply TL_alloc; exact rfl; intro _ _) | (apply TL_buildSlice; exact rfl; exact rfl; exact rfl; exact rfl; exact rfl; intro _ _))
        refine TQ_mid (decide (x - k ≤ f.keep)) ⟨fun h => ⟨x, hx, ⟨by omega, by omega⟩, ?_⟩, fun h => ?_⟩ sb (fun w h => h)
        · unfold fateR; rw [hcut]; exact if_pos (of_decide_eq_true h)
        · unfold fateR; rw [hcut]; exact if_neg (of_decide_eq_false h)
      · have hcut : cutAt l k = none := cutAt_none (fun j y hj => hq2 j y (by have := (List.getElem?_eq_some_iff.1 hj).1; omega) hj)
        apply TC_draw 16; kernel_rfl; exact Try.mixed
        · iterate 3 (refine' pv ?_; rotate_left)
          (refine' PG.val rfl rfl (by intro _X; refine TL_lss_f rfl rfl rfl (by omega) ?_; exact qe) ?_; rotate_left)
          iterate 12 (refine' pv ?_; rotate_left)
          exact PG.nil
        change TL _ _ _ _ _ _ _ _ _ _ _
        repeat' (first | refine rn ?_ | (apply TL_box; exact rfl; exact rfl; exact rfl; intro _ _) | (apply TL_alloc; exact rfl; intro _ _) | (apply TL_buildSlice; exact rfl; exact rfl; exact rfl; exact rfl; exact rfl; intro _ _))
        refine TQ_mid false ⟨fun h => (by cases h), fun _ => ?_⟩ sb (fun w h => h)
        unfold fateR; rw [hcut]
    repeat' (first | refine rn ?_ | (apply TL_box; exact rfl; exact rfl; exact rfl; intro _ _) | (apply TL_alloc; exact rfl; intro _ _) | (apply TL_buildSlice; exact rfl; exact rfl; exact rfl; exact rfl; exact rfl; intro _ _))
    refine TC_join (σ := Unit) (fun _ => True) (fun _ => [(0, .func (.yield lp) #[] #[]), (1, .pointer (some ⟨bt, 0, none⟩)), (2, .pointer (some ⟨bc, 0, none⟩)), (4, .int .i64 ((b.ripe.length : Int) - 1)), (5, .int .i64 k), (6, .pointer (some ⟨b6, 0, none⟩)), (17, .int .i64 b.ripe.length), (18, .int .i64 k)])
      (fun _ => (b6, .cells (encFa (fateR f b.ripe.length l k)) 136) :: (bt, .cells (encTr f b ao c) 110) :: (bc, .cells [.slice lo l.length lc] 47) :: Z k) ?_ (fun _ _ => ?_)
    · refine TC_cond rfl (fun h4 => ?_) (fun h4 => ?_)
      · obtain ⟨x, hx, hxi, e⟩ := hpp.1 h4
        simp only [In] at hxi
        repeat' (first | refine rn ?_ | (apply TL_box; exact rfl; exact rfl; exact rfl; intro _ _) | (apply TL_alloc; exact rfl; intro _ _) | (apply TL_buildSlice; exact rfl; exact rfl; exact rfl; exact rfl; exact rfl; intro _ _))
        refine TL_index q rfl rfl rfl (fun w h => hsl h) rfl (List.getElem?_eq_some_iff.1 hx).1 (Nat.le_refl _) ?_
        refine TL_load_el1 (u := x) rfl rfl (fun w h => hsl h) hx rfl ?_
        repeat' (first | refine rn ?_ | (apply TL_box; exact rfl; exact rfl; exact rfl; intro _ _) | (apply TL_alloc; exact rfl; intro _ _) | (apply TL_buildSlice; exact rfl; exact rfl; exact rfl; exact rfl; exact rfl; intro _ _))
        refine TQ_mid () trivial sb (fun w h => ?_)
        rw [e]; exact h
      · repeat' (first | refine rn ?_ | (apply TL_box; exact rfl; exact rfl; exact rfl; intro _ _) | (apply TL_alloc; exact rfl; intro _ _) | (apply TL_buildSlice; exact rfl; exact rfl; exact rfl; exact rfl; exact rfl; intro _ _))
        refine TQ_mid () trivial sb (fun w h => ?_)
        rw [hpp.2 h4]; exact h
    repeat' (first | refine rn ?_ | (apply TL_box; exact rfl; exact rfl; exact rfl; intro _ _) | (apply TL_alloc; exact rfl; intro _ _) | (apply TL_buildSlice; exact rfl; exact rfl; exact rfl; exact rfl; exact rfl; intro _ _))
    refine TL_yield rfl rfl rfl hy k [(b6, .cells (encFa (fateR f b.ripe.length l k)) 136)] hlt rfl (List.perm_append_comm.trans ((hp k).symm.cons _)) ?_
    refine TL.weaken (Sub.refl _) (fun w h => h.perm (((hp (k + 1)).cons _).trans (List.perm_append_comm (l₁ := [_])))) ?_
    repeat' (first | refine rn ?_ | (apply TL_box; exact rfl; exact rfl; exact rfl; intro _ _) | (apply TL_alloc; exact rfl; intro _ _) | (apply TL_buildSlice; exact rfl; exact rfl; exact rfl; exact rfl; exact rfl; intro _ _))
    exact TQ_round (k + 1) hlt (by omega) sb (fun w h => h.sub (List.Sublist.cons _ (List.Sublist.refl _)))
  · have hkl : k = b.ripe.length := by omega
    subst hkl
    repeat' (first | refine rn ?_ | (apply TL_box; exact rfl; exact rfl; exact rfl; intro _ _) | (apply TL_alloc; exact rfl; intro _ _) | (apply TL_buildSlice; exact rfl; exact rfl; exact rfl; exact rfl; exact rfl; intro _ _))
    exact TQ_end0 Try.results97 (fun w' hs => ⟨(), trivial, rfl, hs.perm (hp _).symm⟩)
end Go.Proofs.Ytccgplomnjpniaa
/- Walks: what a bunch yields. -/
namespace Go.Proofs.Ytccgplomnjpniaa
open Go Go.Eng Go.RowKit Go.Proofs
set_option maxHeartbeats 1000000
set_option maxRecDepth 10000
attribute [local irreducible] TL TC TQ

theorem c84 (f : Ft) (b : Bn) (ao : Option Addr) (c : Nat) (l : List Int) (lo : Option Addr) (lc : Nat) (w : World) : Calls Try.prog 84 #[.agg (encTr f b ao c).toArray, .slice lo l.length lc] w
    (RetP w.heap.size w (fun q : Nat × Nat => .func (.func 97) #[] #[.pointer (some ⟨q.1, 0, none⟩), .pointer (some ⟨q.2, 0, none⟩)]) (fun q => [(q.1, .cells (encTr f b ao c) 110), (q.2, .cells [.slice lo l.length lc] 47)]) (fun _ => True)) := by
  refine enter (args := [.agg (encTr f b ao c).toArray, .slice lo l.length lc]) Try.func84 rfl Try.ntmps84 rfl (SH.refl _) ?_
  repeat' (first | refine rn ?_ | (apply TL_box; exact rfl; exact rfl; exact rfl; intro _ _) | (apply TL_alloc; exact rfl; intro _ _) | (apply TL_buildSlice; exact rfl; exact rfl; exact rfl; exact rfl; exact rfl; intro _ _))
  rename_i b2 _ b3 _
  exact TQ_ret1 Try.results84 (RV.tmp rfl) (fun w' hs => ⟨(b2, b3), trivial, rfl, hs.perm (List.Perm.swap _ _ _)⟩)

theorem c79 {B : Nat} {w0 : World} (f : Ft) (b : Bn) (ao : Option Addr) (c : Nat) (y : Yd) (left : Sp) (d : Int) (hf : OkFt f) (hd : In d 0 30) (hy : YB y 10000000000) (hl : InS left 100000) (bt by_ : Nat) (G : Hp) (hm : (bt, .cells (encTr f b ao c) 110) ∈ G) (w : World) (hs : SH B w0 w ((by_, .cells (encYd y) 55) :: G)) :
    Calls Try.prog 79 #[.agg (encSp left).toArray, .int .i64 d, .pointer (some ⟨bt, 0, none⟩), .pointer (some ⟨by_, 0, none⟩)] w (RetP B w0 (fun _ : Unit => .tuple #[]) (fun _ => (by_, .cells (encYd (pickR f y left d)) 55) :: G) (fun _ => True)) := by
  refine enter (args := [.agg (encSp left).toArray, .int .i64 d, .pointer (some ⟨bt, 0, none⟩), .pointer (some ⟨by_, 0, none⟩)]) Try.func79 rfl Try.ntmps79 rfl hs ?_
  repeat' (first | refine rn ?_ | (apply TL_box; exact rfl; exact rfl; exact rfl; intro _ _) | (apply TL_alloc; exact rfl; intro _ _) | (apply TL_buildSlice; exact rfl; exact rfl; exact rfl; exact rfl; exact rfl; intro _ _))
  rename_i b4 _
  refine TL_loadn rfl rfl (List.Mem.tail _ (List.Mem.tail _ hm)) rfl ?_
  repeat' (first | refine rn ?_ | (apply TL_box; exact rfl; exact rfl; exact rfl; intro _ _) | (apply TL_alloc; exact rfl; intro _ _) | (apply TL_buildSlice; exact rfl; exact rfl; exact rfl; exact rfl; exact rfl; intro _ _))
  refine TL_call rfl rfl rfl _ _ _ (fun w h => c80 f b ao c y left d hf hd hy hl by_ ((b4, .cells (encSp left) 23) :: G) w (h.perm (List.Perm.swap _ _ _))) (fun _ _ => ?_)
  repeat' (first | refine rn ?_ | (apply TL_box; exact rfl; exact rfl; exact rfl; intro _ _) | (apply TL_alloc; exact rfl; intro _ _) | (apply TL_buildSlice; exact rfl; exact rfl; exact rfl; exact rfl; exact rfl; intro _ _))
  exact TQ_end0 Try.results79 (fun w' hs => ⟨(), trivial, rfl, hs.sub (List.Sublist.cons_cons _ (List.Sublist.cons _ (List.Sublist.refl _)))⟩)

theorem c81 {B : Nat} {w0 : World} (y : Yd) (left : Sp) (d : Int) (hy : YB y 10000000000) (hl : InS left 100000) (by_ : Nat) (G : Hp) (w : World) (hs : SH B w0 w ((by_, .cells (encYd y) 55) :: G)) :
    Calls Try.prog 81 #[.agg (encSp left).toArray, .int .i64 d, .pointer (some ⟨by_, 0, none⟩)] w (RetP B w0 (fun _ : Unit => .tuple #[]) (fun _ => (by_, .cells (encYd { y with fallen := addSp y.fallen left }) 55) :: G) (fun _ => True)) := by
  obtain ⟨_, _, _, _, q1, _, _⟩ := hy
  simp only [InS] at q1 hl
  refine enter (args := [.agg (encSp left).toArray, .int .i64 d, .pointer (some ⟨by_, 0, none⟩)]) Try.func81 rfl Try.ntmps81 rfl hs ?_
  repeat' (first | refine rn ?_ | (apply TL_box; exact rfl; exact rfl; exact rfl; intro _ _) | (apply TL_alloc; exact rfl; intro _ _) | (apply TL_buildSlice; exact rfl; exact rfl; exact rfl; exact rfl; exact rfl; intro _ _))
  refine TL_callV rfl rfl rfl (fun w h => c82_2 y.fallen left _ _ w (Sl.of_blk h mm (fun _ _ => rfl) ⟨[], rfl⟩) ⟨by simp only [Small]; omega, by simp only [Small]; omega⟩ ⟨by simp only [Small]; omega, by simp only [Small]; omega⟩) ?_
  repeat' (first | refine rn ?_ | (apply TL_box; exact rfl; exact rfl; exact rfl; intro _ _) | (apply TL_alloc; exact rfl; intro _ _) | (apply TL_buildSlice; exact rfl; exact rfl; exact rfl; exact rfl; exact rfl; intro _ _))
  exact TQ_end0 Try.results81 (fun w' hs => ⟨(), trivial, rfl, hs.sub (by repeat (first | exact List.Sublist.refl _ | apply List.Sublist.cons))⟩)
theorem c83 {B : Nat} {w0 : World} (y : Yd) (left : Sp) (d : Int) (hy : YB y 10000000000) (hl : InS left 100000) (by_ : Nat) (G : Hp) (w : World) (hs : SH B w0 w ((by_, .cells (encYd y) 55) :: G)) :
    Calls Try.prog 83 #[.agg (encSp left).toArray, .int .i64 d, .pointer (some ⟨by_, 0, none⟩)] w (RetP B w0 (fun _ : Unit => .tuple #[]) (fun _ => (by_, .cells (encYd { y with left := addSp y.left left }) 55) :: G) (fun _ => True)) := by
  obtain ⟨_, _, _, _, _, q1, _⟩ := hy
  simp only [InS] at q1 hl
  refine enter (args := [.agg (encSp left).toArray, .int .i64 d, .pointer (some ⟨by_, 0, none⟩)]) Try.func83 rfl Try.ntmps83 rfl hs ?_
  repeat' (first | refine rn ?_ | (apply TL_box; exact rfl; exact rfl; exact rfl; intro _ _) | (apply TL_alloc; exact rfl; intro _ _) | (apply TL_buildSlice; exact rfl; exact rfl; exact rfl; exact rfl; exact rfl; intro _ _))
  refine TL_callV rfl rfl rfl (fun w h => c82_2 y.left left _ _ w (Sl.of_blk h mm (fun _ _ => rfl) ⟨[], rfl⟩) ⟨by simp only [Small]; omega, by simp only [Small]; omega⟩ ⟨by simp only [Small]; omega, by simp only [Small]; omega⟩) ?_
  repeat' (first | refine rn ?_ | (apply TL_box; exact rfl; exact rfl; exact rfl; intro _ _) | (apply TL_alloc; exact rfl; intro _ _) | (apply TL_buildSlice; exact rfl; exact rfl; exact rfl; exact rfl; exact rfl; intro _ _))
  exact TQ_end0 Try.results83 (fun w' hs => ⟨(), trivial, rfl, hs.sub (by repeat (first | exact List.Sublist.refl _ | apply List.Sublist.cons))⟩)

/-- What the dates of one day add. -/
def stepY (f : Ft) (b : Bn) (l : List Int) (y : Yd) (i : Nat) (s : Sp) : Yd :=
  let q := fateR f b.ripe.length l i
  let y1 := { y with taken := addSp y.taken (takenR b s q.2) }
  if q.1 = 0 then pickR f y1 (leftR b s q.2) q.2
  else if q.1 = 1 then { y1 with fallen := addSp y1.fallen (leftR b s q.2) }
  else { y1 with left := addSp y1.left (leftR b s q.2) }
def cutK (f : Ft) (b : Bn) (l : List Int) : Nat → Yd
  | 0 => zeroYd
  | k + 1 => stepY f b l (cutK f b l k) k (b.ripe.getD k (0, 0))
/-- What a bunch yields. -/
def cutR (f : Ft) (b : Bn) (l : List Int) : Yd := cutK f b l b.ripe.length

theorem fate_cases {f : Ft} {n : Nat} {l : List Int} {i : Nat} (hf : OkFt f) (hn : n ≤ 12) (hi : i < n) : (fateR f n l i).1 = 0 ∧ In (fateR f n l i).2 0 30 ∨ ((fateR f n l i).1 = 1 ∨ (fateR f n l i).1 = 2) ∧ In (fateR f n l i).2 0 31 := by
  have hkp := hf.2.2.2.2.2.1
  simp only [In] at hkp
  have hr : ((restR f n i).1 = 1 ∨ (restR f n i).1 = 2) ∧ In (restR f n i).2 0 31 := by
    unfold restR
    split
    · exact ⟨.inl rfl, by simp only [In]; omega⟩
    · exact ⟨.inr rfl, by simp only [In]; omega⟩
  unfold fateR
  cases hc : cutAt l i with
  | none => exact .inr hr
  | some c =>
    have h1 : (i : Int) ≤ c := by
      have := List.find?_some hc
      simpa using this
    dsimp only
    split
    · exact .inl ⟨rfl, by simp only [In]; omega⟩
    · exact .inr hr
theorem birdB {f : Ft} {b : Bn} {n : Nat} {l : List Int} {i : Nat} {s : Sp} (hf : OkFt f) (hb : OkBn b) (hn : n ≤ 12) (hi : i < n) (hs : s ∈ b.ripe) : BirdB b s (fateR f n l i).2 := by
  have hd : In (fateR f n l i).2 0 31 := by
    rcases fate_cases (l := l) hf hn hi with h | h
    · have := h.2; simp only [In] at this ⊢; omega
    · exact h.2
  obtain ⟨_, h2, h3⟩ := hb
  have h4 := h2 s hs
  simp only [Ord, In] at *
  have e1 := mulB hd.1 hd.2 h3.1 (Int.le_trans h3.2.1 h3.2.2)
  have e2 := mulB hd.1 hd.2 (Int.le_trans h3.1 h3.2.1) h3.2.2
  exact ⟨by omega, by omega, by omega, by omega⟩
theorem bLoHi {b : Bn} {s : Sp} {d : Int} (h : BirdB b s d) : 0 ≤ bLo b d ∧ 0 ≤ bHi b d := by
  obtain ⟨h1, h2, _, _⟩ := h
  unfold bLo bHi
  split <;> omega
theorem takenR_in {b : Bn} {s : Sp} {d : Int} (h : BirdB b s d) : InS (takenR b s d) 100000 := by
  have := bLoHi h
  have h3 := h.c
  have h4 := h.e
  simp only [InS, takenR]; omega
theorem leftR_in {b : Bn} {s : Sp} {d : Int} (h : BirdB b s d) : InS (leftR b s d) 100000 := by
  have := bLoHi h
  have h3 := h.c
  have h4 := h.e
  simp only [InS, leftR]; omega
theorem addSp_in {a b : Sp} {n m k : Int} (ha : InS a n) (hb : InS b m) (hk : n + m ≤ k) : InS (addSp a b) k := by
  simp only [InS, addSp] at *; omega
theorem stepY_B {f : Ft} {b : Bn} {l : List Int} {y : Yd} {i : Nat} {s : Sp} {n : Int} (hf : OkFt f) (hb : OkBn b) (hi : i < b.ripe.length) (hs : s ∈ b.ripe) (h : YB y n) : YB (stepY f b l y i s) (n + 200000000) := by
  have hn : b.ripe.length ≤ 12 := by have := hb.1; simp only [In] at this; omega
  have hB := birdB (l := l) hf hb hn hi hs
  have ht := takenR_in hB
  have hl := leftR_in hB
  have h1 : YB { y with taken := addSp y.taken (takenR b s (fateR f b.ripe.length l i).2) } (n + 100000) :=
    { h.mono (show n ≤ n + 100000 by omega) with taken := addSp_in h.taken ht (Int.le_refl _) }
  unfold stepY
  dsimp only
  split
  · rename_i h0
    rcases fate_cases (l := l) hf hn hi with hc | hc
    · exact (pickR_B hf (dayB hf hc.2) hc.2.1 h1 hl).mono (by omega)
    · omega
  · split
    · exact { h1.mono (show n + 100000 ≤ n + 200000000 by omega) with fallen := addSp_in h.fallen hl (by omega) }
    · exact { h1.mono (show n + 100000 ≤ n + 200000000 by omega) with left := addSp_in h.left hl (by omega) }
theorem cutK_B {f : Ft} {b : Bn} {l : List Int} (hf : OkFt f) (hb : OkBn b) : ∀ k, k ≤ b.ripe.length → YB (cutK f b l k) (200000000 * k) := by
  intro k
  induction k with
  | zero => intro _; exact ⟨by simp [cutK, zeroYd, InS], by simp [cutK, zeroYd, InS], by simp [cutK, zeroYd, InS], by simp [cutK, zeroYd, InS], by simp [cutK, zeroYd, InS], by simp [cutK, zeroYd, InS], by simp [cutK, zeroYd, InS]⟩
  | succ k ih =>
    intro hk
    refine (stepY_B hf hb (by omega) ?_ (ih (by omega))).mono (by omega)
    rw [List.getD_eq_getElem?_getD, List.getElem?_eq_getElem (by omega)]
    exact List.getElem_mem _
end Go.Proofs.Ytccgplomnjpniaa
/- Walks: what a bunch yields, of the program. -/
namespace Go.Proofs.Ytccgplomnjpniaa
open Go Go.Eng Go.RowKit Go.Proofs
set_option maxHeartbeats 1000000
set_option maxRecDepth 10000
attribute [local irreducible] TL TC TQ

theorem c60 (f : Ft) (b : Bn) (ao : Option Addr) (c : Nat) (l : List Int) (lo : Option Addr) (lc : Nat) (hf : OkFt f) (hb : OkBn b) (hl : CutsOk b.ripe.length l) (w : World) (ha : Sl w 2 encSp ao b.ripe) (hal : Sl w 1 encI lo l) :
    Calls Try.prog 60 #[.agg (encTr f b ao c).toArray, .slice lo l.length lc] w (RetV w (.agg (encYd (cutR f b l)).toArray)) := by
  have hn : b.ripe.length ≤ 12 := by have := hb.1; simp only [In] at this; omega
  refine enterM (args := [.agg (encTr f b ao c).toArray, .slice lo l.length lc]) Try.func60 rfl Try.ntmps60 rfl (SH.refl _) ?_
  repeat' (first | refine rn ?_ | (apply TL_box; exact rfl; exact rfl; exact rfl; intro _ _) | (apply TL_alloc; exact rfl; intro _ _) | (apply TL_buildSlice; exact rfl; exact rfl; exact rfl; exact rfl; exact rfl; intro _ _))
  rename_i b2 _ b4 _ b5 _
  refine TL_makeMap rfl (fun m _ => ?_)
  repeat' (first | refine rn ?_ | (apply TL_box; exact rfl; exact rfl; exact rfl; intro _ _) | (apply TL_alloc; exact rfl; intro _ _) | (apply TL_buildSlice; exact rfl; exact rfl; exact rfl; exact rfl; exact rfl; intro _ _))
  refine TL_mapSet (.inr rfl) rfl rfl rfl (fun _ _ => up) MR.nil (fun es1 clk1 hr1 => ?_)
  repeat' (first | refine rn ?_ | (apply TL_box; exact rfl; exact rfl; exact rfl; intro _ _) | (apply TL_alloc; exact rfl; intro _ _) | (apply TL_buildSlice; exact rfl; exact rfl; exact rfl; exact rfl; exact rfl; intro _ _))
  refine TL_mapSet (.inr rfl) rfl rfl rfl (fun _ _ => up) hr1 (fun es2 clk2 hr2 => ?_)
  repeat' (first | refine rn ?_ | (apply TL_box; exact rfl; exact rfl; exact rfl; intro _ _) | (apply TL_alloc; exact rfl; intro _ _) | (apply TL_buildSlice; exact rfl; exact rfl; exact rfl; exact rfl; exact rfl; intro _ _))
  refine TL_mapSet (.inr rfl) rfl rfl rfl (fun _ _ => up) hr2 (fun es3 clk3 hr3 => ?_)
  repeat' (first | refine rn ?_ | (apply TL_box; exact rfl; exact rfl; exact rfl; intro _ _) | (apply TL_alloc; exact rfl; intro _ _) | (apply TL_buildSlice; exact rfl; exact rfl; exact rfl; exact rfl; exact rfl; intro _ _))
  rename_i b6 _
  refine TL_callN rfl rfl rfl (fun w h => c84 f b ao c l lo lc w) ?_
  rintro ⟨q1, q2⟩ -
  dsimp only
  repeat' (first | refine rn ?_ | (apply TL_box; exact rfl; exact rfl; exact rfl; intro _ _) | (apply TL_alloc; exact rfl; intro _ _) | (apply TL_buildSlice; exact rfl; exact rfl; exact rfl; exact rfl; exact rfl; intro _ _))
  refine TC_range (ps := [19, 20]) (k := 97) rfl rfl b.ripe.length (fun j => [.int .i64 j, .agg (encFa (fateR f b.ripe.length l j)).toArray])
    (fun j => [(q1, .cells (encTr f b ao c) 110), (q2, .cells [.slice lo l.length lc] 47), (b6, .cells [.map (some m)] 131), (m, .obj (.map es3 clk3)), (b5, .cells (encYd (cutK f b l j)) 55), (b4, .cells (encYd zeroYd) 55), (b2, .cells (encTr f b ao c) 110)]) (fun j => rfl) (fun w h => h) ?_ ?_ ?_
  · intro lp Dd rec j G hj
    obtain ⟨s, hs⟩ : ∃ s, b.ripe[j]? = some s := ⟨_, List.getElem?_eq_getElem hj⟩
    have hsm : s ∈ b.ripe := List.mem_of_getElem? hs
    have hB := birdB (l := l) hf hb hn hj hsm
    have hy := cutK_B (l := l) hf hb j (by omega)
    have hnext : cutK f b l (j + 1) = stepY f b l (cutK f b l j) j s := by
      rw [cutK, List.getD_eq_getElem?_getD, hs]; rfl
    have hfc := fate_cases (l := l) hf hn hj
    have ht := takenR_in hB
    have hlf := leftR_in hB
    rw [hnext]
    unfold stepY
    generalize fateR f b.ripe.length l j = fa at *
    generalize cutK f b l j = y at *
    obtain ⟨way, d⟩ := fa
    dsimp only at *
    repeat' (first | refine rn ?_ | (apply TL_box; exact rfl; exact rfl; exact rfl; intro _ _) | (apply TL_alloc; exact rfl; intro _ _) | (apply TL_buildSlice; exact rfl; exact rfl; exact rfl; exact rfl; exact rfl; intro _ _))
    rename_i b8 _
    refine TQ_asg (rec := rec) up ?_
    repeat' (first | refine rn ?_ | (apply TL_box; exact rfl; exact rfl; exact rfl; intro _ _) | (apply TL_alloc; exact rfl; intro _ _) | (apply TL_buildSlice; exact rfl; exact rfl; exact rfl; exact rfl; exact rfl; intro _ _))
    apply TC_draw3 15 12; kernel_rfl; exact Try.mixed
    · iterate 5 (refine' pv ?_; rotate_left)
      (refine' PG.val rfl rfl (by intro _X; refine TL_index j rfl rfl rfl (fun w h => h.sl ha) rfl hj (Nat.le_refl _) ?_; exact qe) ?_; rotate_left)
      (refine' PG.val rfl rfl (by intro _X; refine TL_load_eln (u := s) rfl rfl (fun w h => h.sl ha) hs rfl ?_; exact qe) ?_; rotate_left)
      iterate 2 (refine' pv ?_; rotate_left)
      (refine' PG.val rfl rfl (by intro _X; refine TL_callV rfl rfl rfl (fun w _ => c85 f b ao c s d hB w) ?_; exact qe) ?_; rotate_left)
      iterate 3 (refine' pv ?_; rotate_left)
      iterate 2 (refine' pn ?_; rotate_left)
      exact PG.nil
    · rintro _ _ ⟨b10, _, rfl, rfl⟩ _ _ ⟨b9, _, rfl, rfl⟩; change TL _ _ _ _ _ _ _ _ _ _ _; refine r1 ?_; exact TL_nil TQ_endN
    rintro _ _ ⟨b10, _, rfl, rfl⟩ _ _ ⟨b9, _, rfl, rfl⟩
    change TL _ _ _ _ _ _ _ _ _ _ _
    repeat' (first | refine rn ?_ | (apply TL_box; exact rfl; exact rfl; exact rfl; intro _ _) | (apply TL_alloc; exact rfl; intro _ _) | (apply TL_buildSlice; exact rfl; exact rfl; exact rfl; exact rfl; exact rfl; intro _ _))
    have hyt := hy.taken
    simp only [InS] at hyt ht
    have hy1 : YB { y with taken := addSp y.taken (takenR b s d) } 10000000000 := by
      have h0 := hy.mono (show 200000000 * (j : Int) ≤ 10000000000 by omega)
      exact { h0 with taken := addSp_in hy.taken (takenR_in hB) (by omega) }
    refine TL_callV rfl rfl rfl (fun w h => c82_2 y.taken (takenR b s d) _ _ w (Sl.of_blk h mm (fun _ _ => rfl) ⟨[], rfl⟩) ⟨by simp only [Small]; omega, by simp only [Small]; omega⟩ ⟨by simp only [Small]; omega, by simp only [Small]; omega⟩) ?_
    repeat' (first | refine rn ?_ | (apply TL_box; exact rfl; exact rfl; exact rfl; intro _ _) | (apply TL_alloc; exact rfl; intro _ _) | (apply TL_buildSlice; exact rfl; exact rfl; exact rfl; exact rfl; exact rfl; intro _ _))
    rename_i b37 _
    have hway : way = 0 ∨ way = 1 ∨ way = 2 := by omega
    rcases hway with rfl | rfl | rfl
    · have hd : In d 0 30 := by
        rcases hfc with h | h
        · exact h.2
        · omega
      refine TL_lookup_some (v := .func (.func 79) #[] #[.pointer (some ⟨b2, 0, none⟩), .pointer (some ⟨b5, 0, none⟩)]) rfl rfl rfl mm hr3 (by rfl) ?_
      repeat' (first | refine rn ?_ | (apply TL_box; exact rfl; exact rfl; exact rfl; intro _ _) | (apply TL_alloc; exact rfl; intro _ _) | (apply TL_buildSlice; exact rfl; exact rfl; exact rfl; exact rfl; exact rfl; intro _ _))
      refine TL_callAt 10 rfl rfl rfl rfl (fun w h => c79 f b ao c { y with taken := addSp y.taken (takenR b s d) } (leftR b s d) d hf hd hy1 hlf b2 b5 _ mm w h) ?_
      repeat' (first | refine rn ?_ | (apply TL_box; exact rfl; exact rfl; exact rfl; intro _ _) | (apply TL_alloc; exact rfl; intro _ _) | (apply TL_buildSlice; exact rfl; exact rfl; exact rfl; exact rfl; exact rfl; intro _ _))
      refine TQ_body (fun w h => ?_)
      rw [if_pos rfl]
      exact h.sub (List.Sublist.cons _ (List.Sublist.cons _ (List.Sublist.cons _ (List.Sublist.cons _ (List.Sublist.refl _)))))
    · refine TL_lookup_some (v := .func (.func 81) #[] #[.pointer (some ⟨b5, 0, none⟩)]) rfl rfl rfl mm hr3 (by rfl) ?_
      repeat' (first | refine rn ?_ | (apply TL_box; exact rfl; exact rfl; exact rfl; intro _ _) | (apply TL_alloc; exact rfl; intro _ _) | (apply TL_buildSlice; exact rfl; exact rfl; exact rfl; exact rfl; exact rfl; intro _ _))
      refine TL_callAt 10 rfl rfl rfl rfl (fun w h => c81 { y with taken := addSp y.taken (takenR b s d) } (leftR b s d) d hy1 hlf b5 _ w h) ?_
      repeat' (first | refine rn ?_ | (apply TL_box; exact rfl; exact rfl; exact rfl; intro _ _) | (apply TL_alloc; exact rfl; intro _ _) | (apply TL_buildSlice; exact rfl; exact rfl; exact rfl; exact rfl; exact rfl; intro _ _))
      refine TQ_body (fun w h => ?_)
      rw [if_neg (by decide), if_pos rfl]
      exact h.sub (List.Sublist.cons _ (List.Sublist.cons _ (List.Sublist.cons _ (List.Sublist.cons _ (List.Sublist.refl _)))))
    · refine TL_lookup_some (v := .func (.func 83) #[] #[.pointer (some ⟨b5, 0, none⟩)]) rfl rfl rfl mm hr3 (by rfl) ?_
      repeat' (first | refine rn ?_ | (apply TL_box; exact rfl; exact rfl; exact rfl; intro _ _) | (apply TL_alloc; exact rfl; intro _ _) | (apply TL_buildSlice; exact rfl; exact rfl; exact rfl; exact rfl; exact rfl; intro _ _))
      refine TL_callAt 10 rfl rfl rfl rfl (fun w h => c83 { y with taken := addSp y.taken (takenR b s d) } (leftR b s d) d hy1 hlf b5 _ w h) ?_
      repeat' (first | refine rn ?_ | (apply TL_box; exact rfl; exact rfl; exact rfl; intro _ _) | (apply TL_alloc; exact rfl; intro _ _) | (apply TL_buildSlice; exact rfl; exact rfl; exact rfl; exact rfl; exact rfl; intro _ _))
      refine TQ_body (fun w h => ?_)
      rw [if_neg (by decide), if_neg (by decide)]
      exact h.sub (List.Sublist.cons _ (List.Sublist.cons _ (List.Sublist.cons _ (List.Sublist.cons _ (List.Sublist.refl _)))))
  · intro lp Y G hY hyld w hs
    exact c97 f b ao c l lo lc q1 q2 lp _ Y hf hn hl (fun h => h.sl hal) (fun j => by rw [hY]; exact (List.perm_middle.trans (List.perm_middle.cons _)).symm) hyld w hs
  · intro Dd
    repeat' (first | refine rn ?_ | (apply TL_box; exact rfl; exact rfl; exact rfl; intro _ _) | (apply TL_alloc; exact rfl; intro _ _) | (apply TL_buildSlice; exact rfl; exact rfl; exact rfl; exact rfl; exact rfl; intro _ _))
    exact TQ_leaveM (rs := [.cell 4 55]) (vs := [.agg (encYd (cutR f b l)).toArray]) (.inl rfl) up Try.results60 ⟨RV.celln rfl mm rfl, trivial⟩ (fun w' hs => ⟨rfl, hs.below⟩)
end Go.Proofs.Ytccgplomnjpniaa
