/- Walks: what a bunch yields. -/
import Derived.Test.YtccgplomnjpniaaE13
namespace Go.Proofs.Ytccgplomnjpniaa
open Go Go.Eng Go.RowKit Go.Proofs
set_option maxHeartbeats 1000000
set_option maxRecDepth 10000
attribute [local irreducible] TL TC TQ

theorem c84 (f : Ft) (b : Bn) (ao : Option Addr) (c : Nat) (l : List Int) (lo : Option Addr) (lc : Nat) (w : World) : Calls Try.prog 84 #[.agg (encTr f b ao c).toArray, .slice lo l.length lc] w
    (RetP w.heap.size w (fun q : Nat × Nat => .func (.func 97) #[] #[.pointer (some ⟨q.1, 0, none⟩), .pointer (some ⟨q.2, 0, none⟩)]) (fun q => [(q.1, .cells (encTr f b ao c) 110), (q.2, .cells [.slice lo l.length lc] 47)]) (fun _ => True)) := by
  refine enter (args := [.agg (encTr f b ao c).toArray, .slice lo l.length lc]) Try.func84 rfl Try.ntmps84 rfl (SH.refl _) ?_
  repeat' (first | refine rn ?_ | (apply TL_box; exact rfl; exact rfl; exact rfl; intro _ _) | (apply TL_alloc; exact rfl; intro _ _) | (apply TL_buildSlice; exact rfl; exact rfl; exact rfl; exact rfl; exact rfl; intro _ _))
  rename_i b2 _ b3 _
  exact TQ_ret1 Try.results84 (RV.tmp rfl) (fun w' hs => ⟨(b2, b3), trivial, rfl, hs.perm (List.Perm.swap _ _ _)⟩)

theorem c79 {B : Nat} {w0 : World} (f : Ft) (b : Bn) (ao : Option Addr) (c : Nat) (y : Yd) (left : Sp) (d : Int) (hf : OkFt f) (hd : In d 0 30) (hy : YB y 10000000000) (hl : InS left 100000) (bt by_ : Nat) (G : Hp) (hm : (bt, .cells (encTr f b ao c) 110) ∈ G) (w : World) (hs : SH B w0 w ((by_, .cells (encYd y) 55) :: G)) :
    Calls Try.prog 79 #[.agg (encSp left).toArray, .int .i64 d, .pointer (some ⟨bt, 0, none⟩), .pointer (some ⟨by_, 0, none⟩)] w (RetP B w0 (fun _ : Unit => .tuple #[]) (fun _ => (by_, .cells (encYd (pickR f y left d)) 55) :: G) (fun _ => True)) := by
  refine enter (args := [.agg (encSp left).toArray, .int .i64 d, .pointer (some ⟨bt, 0, none⟩), .pointer (some ⟨by_, 0, none⟩)]) Try.func79 rfl Try.ntmps79 rfl hs ?_
  repeat' (first | refine rn ?_ | (apply TL_box; exact rfl; exact rfl; exact rfl; intro _ _) | (apply TL_alloc; exact rfl; intro _ _) | (apply TL_buildSlice; exact rfl; exact rfl; exact rfl; exact rfl; exact rfl; intro _ _))
  rename_i b4 _
  refine TL_loadn rfl rfl (List.Mem.tail _ (List.Mem.tail _ hm)) rfl ?_
  repeat' (first | refine rn ?_ | (apply TL_box; exact rfl; exact rfl; exact rfl; intro _ _) | (apply TL_alloc; exact rfl; intro _ _) | (apply TL_buildSlice; exact rfl; exact rfl; exact rfl; exact rfl; exact rfl; intro _ _))
  refine TL_call rfl rfl rfl _ _ _ (fun w h => c80 f b ao c y left d hf hd hy hl by_ ((b4, .cells (encSp left) 23) :: G) w (h.perm (List.Perm.swap _ _ _))) (fun _ _ => ?_)
  repeat' (first | refine rn ?_ | (apply TL_box; exact rfl; exact rfl; exact rfl; intro _ _) | (apply TL_alloc; exact rfl; intro _ _) | (apply TL_buildSlice; exact rfl; exact rfl; exact rfl; exact rfl; exact rfl; intro _ _))
  exact TQ_end0 Try.results79 (fun w' hs => ⟨(), trivial, rfl, hs.sub (List.Sublist.cons_cons _ (List.Sublist.cons _ (List.Sublist.refl _)))⟩)

theorem c81 {B : Nat} {w0 : World} (y : Yd) (left : Sp) (d : Int) (hy : YB y 10000000000) (hl : InS left 100000) (by_ : Nat) (G : Hp) (w : World) (hs : SH B w0 w ((by_, .cells (encYd y) 55) :: G)) :
    Calls Try.prog 81 #[.agg (encSp left).toArray, .int .i64 d, .pointer (some ⟨by_, 0, none⟩)] w (RetP B w0 (fun _ : Unit => .tuple #[]) (fun _ => (by_, .cells (encYd { y with fallen := addSp y.fallen left }) 55) :: G) (fun _ => True)) := by
  obtain ⟨_, _, _, _, q1, _, _⟩ := hy
  simp only [InS] at q1 hl
  refine enter (args := [.agg (encSp left).toArray, .int .i64 d, .pointer (some ⟨by_, 0, none⟩)]) Try.func81 rfl Try.ntmps81 rfl hs ?_
  repeat' (first | refine rn ?_ | (apply TL_box; exact rfl; exact rfl; exact rfl; intro _ _) | (apply TL_alloc; exact rfl; intro _ _) | (apply TL_buildSlice; exact rfl; exact rfl; exact rfl; exact rfl; exact rfl; intro _ _))
  refine TL_callV rfl rfl rfl (fun w h => c82_2 y.fallen left _ _ w (Sl.of_blk h mm (fun _ _ => rfl) ⟨[], rfl⟩) ⟨by simp only [Small]; omega, by simp only [Small]; omega⟩ ⟨by simp only [Small]; omega, by simp only [Small]; omega⟩) ?_
  repeat' (first | refine rn ?_ | (apply TL_box; exact rfl; exact rfl; exact rfl; intro _ _) | (apply TL_alloc; exact rfl; intro _ _) | (apply TL_buildSlice; exact rfl; exact rfl; exact rfl; exact rfl; exact rfl; intro _ _))
  exact TQ_end0 Try.results81 (fun w' hs => ⟨(), trivial, rfl, hs.sub (by repeat (first | exact List.Sublist.refl _ | apply List.Sublist.cons))⟩)
theorem c83 {B : Nat} {w0 : World} (y : Yd) (left : Sp) (d : Int) (hy : YB y 10000000000) (hl : InS left 100000) (by_ : Nat) (G : Hp) (w : World) (hs : SH B w0 w ((by_, .cells (encYd y) 55) :: G)) :
    Calls Try.prog 83 #[.agg (encSp left).toArray, .int .i64 d, .pointer (some ⟨by_, 0, none⟩)] w (RetP B w0 (fun _ : Unit => .tuple #[]) (fun _ => (by_, .cells (encYd { y with left := addSp y.left left }) 55) :: G) (fun _ => True)) := by
  obtain ⟨_, _, _, _, _, q1, _⟩ := hy
  simp only [InS] at q1 hl
  refine enter (args := [.agg (encSp left).toArray, .int .i64 d, .pointer (some ⟨by_, 0, none⟩)]) Try.func83 rfl Try.ntmps83 rfl hs ?_
  repeat' (first | refine rn ?_ | (apply TL_box; exact rfl; exact rfl; exact rfl; intro _ _) | (apply TL_alloc; exact rfl; intro _ _) | (apply TL_buildSlice; exact rfl; exact rfl; exact rfl; exact rfl; exact rfl; intro _ _))
  refine TL_callV rfl rfl rfl (fun w h => c82_2 y.left left _ _ w (Sl.of_blk h mm (fun _ _ => rfl) ⟨[], rfl⟩) ⟨by simp only [Small]; omega, by simp only [Small]; omega⟩ ⟨by simp only [Small]; omega, by simp only [Small]; omega⟩) ?_
  repeat' (first | refine rn ?_ | (apply TL_box; exact rfl; exact rfl; exact rfl; intro _ _) | (apply TL_alloc; exact rfl; intro _ _) | (apply TL_buildSlice; exact rfl; exact rfl; exact rfl; exact rfl; exact rfl; intro _ _))
  exact TQ_end0 Try.results83 (fun w' hs => ⟨(), trivial, rfl, hs.sub (by repeat (first | exact List.Sublist.refl _ | apply List.Sublist.cons))⟩)

/-- What the dates of one day add. -/
def stepY (f : Ft) (b : Bn) (l : List Int) (y : Yd) (i : Nat) (s : Sp) : Yd :=
  let q := fateR f b.ripe.length l i
  let y1 := { y with taken := addSp y.taken (takenR b s q.2) }
  if q.1 = 0 then pickR f y1 (leftR b s q.2) q.2
  else if q.1 = 1 then { y1 with fallen := addSp y1.fallen (leftR b s q.2) }
  else { y1 with left := addSp y1.left (leftR b s q.2) }
def cutK (f : Ft) (b : Bn) (l : List Int) : Nat → Yd
  | 0 => zeroYd
  | k + 1 => stepY f b l (cutK f b l k) k (b.ripe.getD k (0, 0))
/-- What a bunch yields. -/
def cutR (f : Ft) (b : Bn) (l : List Int) : Yd := cutK f b l b.ripe.length

theorem fate_cases {f : Ft} {n : Nat} {l : List Int} {i : Nat} (hf : OkFt f) (hn : n ≤ 12) (hi : i < n) : (fateR f n l i).1 = 0 ∧ In (fateR f n l i).2 0 30 ∨ ((fateR f n l i).1 = 1 ∨ (fateR f n l i).1 = 2) ∧ In (fateR f n l i).2 0 31 := by
  have hkp := hf.2.2.2.2.2.1
  simp only [In] at hkp
  have hr : ((restR f n i).1 = 1 ∨ (restR f n i).1 = 2) ∧ In (restR f n i).2 0 31 := by
    unfold restR
    split
    · exact ⟨.inl rfl, by simp only [In]; omega⟩
    · exact ⟨.inr rfl, by simp only [In]; omega⟩
  unfold fateR
  cases hc : cutAt l i with
  | none => exact .inr hr
  | some c =>
    have h1 : (i : Int) ≤ c := by
      have := List.find?_some hc
      simpa using this
    dsimp only
    split
    · exact .inl ⟨rfl, by simp only [In]; omega⟩
    · exact .inr hr
theorem birdB {f : Ft} {b : Bn} {n : Nat} {l : List Int} {i : Nat} {s : Sp} (hf : OkFt f) (hb : OkBn b) (hn : n ≤ 12) (hi : i < n) (hs : s ∈ b.ripe) : BirdB b s (fateR f n l i).2 := by
  have hd : In (fateR f n l i).2 0 31 := by
    rcases fate_cases (l := l) hf hn hi with h | h
    · have := h.2; simp only [In] at this ⊢; omega
    · exact h.2
  obtain ⟨_, h2, h3⟩ := hb
  have h4 := h2 s hs
  simp only [Ord, In] at *
  have e1 := mulB hd.1 hd.2 h3.1 (Int.le_trans h3.2.1 h3.2.2)
  have e2 := mulB hd.1 hd.2 (Int.le_trans h3.1 h3.2.1) h3.2.2
  exact ⟨by omega, by omega, by omega, by omega⟩
theorem bLoHi {b : Bn} {s : Sp} {d : Int} (h : BirdB b s d) : 0 ≤ bLo b d ∧ 0 ≤ bHi b d := by
  obtain ⟨h1, h2, _, _⟩ := h
  unfold bLo bHi
  split <;> omega
theorem takenR_in {b : Bn} {s : Sp} {d : Int} (h : BirdB b s d) : InS (takenR b s d) 100000 := by
  have := bLoHi h
  have h3 := h.c
  have h4 := h.e
  simp only [InS, takenR]; omega
theorem leftR_in {b : Bn} {s : Sp} {d : Int} (h : BirdB b s d) : InS (leftR b s d) 100000 := by
  have := bLoHi h
  have h3 := h.c
  have h4 := h.e
  simp only [InS, leftR]; omega
theorem addSp_in {a b : Sp} {n m k : Int} (ha : InS a n) (hb : InS b m) (hk : n + m ≤ k) : InS (addSp a b) k := by
  simp only [InS, addSp] at *; omega
theorem stepY_B {f : Ft} {b : Bn} {l : List Int} {y : Yd} {i : Nat} {s : Sp} {n : Int} (hf : OkFt f) (hb : OkBn b) (hi : i < b.ripe.length) (hs : s ∈ b.ripe) (h : YB y n) : YB (stepY f b l y i s) (n + 200000000) := by
  have hn : b.ripe.length ≤ 12 := by have := hb.1; simp only [In] at this; omega
  have hB := birdB (l := l) hf hb hn hi hs
  have ht := takenR_in hB
  have hl := leftR_in hB
  have h1 : YB { y with taken := addSp y.taken (takenR b s (fateR f b.ripe.length l i).2) } (n + 100000) :=
    { h.mono (show n ≤ n + 100000 by omega) with taken := addSp_in h.taken ht (Int.le_refl _) }
  unfold stepY
  dsimp only
  split
  · rename_i h0
    rcases fate_cases (l := l) hf hn hi with hc | hc
    · exact (pickR_B hf (dayB hf hc.2) hc.2.1 h1 hl).mono (by omega)
    · omega
  · split
    · exact { h1.mono (show n + 100000 ≤ n + 200000000 by omega) with fallen := addSp_in h.fallen hl (by omega) }
    · exact { h1.mono (show n + 100000 ≤ n + 200000000 by omega) with left := addSp_in h.left hl (by omega) }
theorem cutK_B {f : Ft} {b : Bn} {l : List Int} (hf : OkFt f) (hb : OkBn b) : ∀ k, k ≤ b.ripe.length → YB (cutK f b l k) (200000000 * k) := by
  intro k
  induction k with
  | zero => intro _; exact ⟨by simp [cutK, zeroYd, InS], by simp [cutK, zeroYd, InS], by simp [cutK, zeroYd, InS], by simp [cutK, zeroYd, InS], by simp [cutK, zeroYd, InS], by simp [cutK, zeroYd, InS], by simp [cutK, zeroYd, InS]⟩
  | succ k ih =>
    intro hk
    refine (stepY_B hf hb (by omega) ?_ (ih (by omega))).mono (by omega)
    rw [List.getD_eq_getElem?_getD, List.getElem?_eq_getElem (by omega)]
    exact List.getElem_mem _
end Go.Proofs.Ytccgplomnjpniaa
