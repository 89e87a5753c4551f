/- The best cuts, against others; the walk of the statement DateSure. -/
import Derived.Test.YtccgplomnjpniaaE34
import Derived.Test.YtccgplomnjpniaaE23
namespace Go.Proofs.Ytccgplomnjpniaa
open Go Go.Eng Go.RowKit Go.Proofs
set_option maxHeartbeats 4000000
set_option maxRecDepth 10000
attribute [local irreducible] TL TC TQ

theorem cutsB_inc (n : Nat) : ∀ (l : List Int) (lo : Int), cutsB n lo l = true ↔ Pick.Inc n lo l := by
  intro l
  induction l with
  | nil => intro lo; simp [cutsB, Pick.Inc]
  | cons x l ih =>
    intro lo
    show (decide (In x lo (n - 1)) && cutsB n (x + 1) l) = true ↔ (lo ≤ x ∧ x ≤ (n : Int) - 1 ∧ Pick.Inc n (x + 1) l)
    rw [Bool.and_eq_true, decide_eq_true_iff, ih]
    exact and_assoc
theorem best_top {f : Ft} {b : Bn} (hf : OkFt f) (hb : OkBn b) {most : Int} (h : In most 0 12) : ∃ l n, bestR f b most = (l, n, 0) ∧ n = worthR f b l ∧ cutsB b.ripe.length 0 l = true ∧ (l.length : Int) ≤ most ∧
    ∀ o, cutsB b.ripe.length 0 o = true → (o.length : Int) ≤ most → worthR f b o < n ∨ (worthR f b o = n ∧ Pick.bef o l = false) := by
  have hB := Pick.up1_best (W := worthR f b) (worthR_nonneg hf hb) (worthR_nil f b) (Pick.allE b.ripe.length most.toNat) (Pick.allE_pairwise _ _)
  have h0 : 0 ≤ most := h.1
  refine ⟨_, _, by unfold bestR; rw [if_neg (by rw [check_of hf hb]; simp), if_neg (not_not_intro h)], hB.worth, ?_, ?_, fun o ho hlen => hB.top o (.inl ((Pick.mem_allE _).2 ⟨(cutsB_inc _ _ _).1 ho, by omega⟩))⟩
  · rcases hB.here with h1 | h1
    · exact (cutsB_inc _ _ _).2 ((Pick.mem_allE _).1 h1).1
    · rw [h1]; rfl
  · rcases hB.here with h1 | h1
    · have := ((Pick.mem_allE _).1 h1).2; omega
    · rw [h1]; simpa using h0
theorem lex_at : ∀ (a b : List Int) (k : Nat) (x y : Int), Pick.lexB a b = false → (∀ i, i < k → a[i]? = b[i]?) → a[k]? = some x → b[k]? = some y → x ≠ y → y < x := by
  intro a
  induction a with
  | nil => intro b k x y _ _ h; simp at h
  | cons u a ih =>
    intro b k x y hl hi hx hy hne
    cases b with
    | nil => simp at hy
    | cons v b =>
      cases k with
      | zero =>
        simp at hx hy; subst hx hy
        simp only [Pick.lexB, if_neg hne, decide_eq_false_iff_not] at hl; omega
      | succ k =>
        have h0 := hi 0 (by omega)
        simp at h0; subst h0
        simp only [Pick.lexB, if_true] at hl
        exact ih b k x y hl (fun i h => by have := hi (i + 1) (by omega); simpa using this) (by simpa using hx) (by simpa using hy) hne
theorem c9 (f : Ft) (b : Bn) (ao : Option Addr) (c : Nat) (most : Int) (l : List Int) (lo : Option Addr) (lc : Nat) (hl : b.ripe.length ≤ 9223372036854775807) (hl2 : l.length ≤ 9223372036854775807)
    (w : World) (ha : Sl w 2 encSp ao b.ripe) (hal : Sl w 1 encI lo l) :
    Calls Try.prog 9 #[.agg (encFt f).toArray, .agg (encBn b ao c).toArray, .int .i64 most, .slice lo l.length lc] w (RetV w (.bool true)) := by
  refine enter (args := [.agg (encFt f).toArray, .agg (encBn b ao c).toArray, .int .i64 most, .slice lo l.length lc]) Try.func9 rfl Try.ntmps9 rfl (SH.refl _) ?_
  repeat' (first | refine rn ?_ | (apply TL_box; exact rfl; exact rfl; exact rfl; intro _ _) | (apply TL_alloc; exact rfl; intro _ _) | (apply TL_buildSlice; exact rfl; exact rfl; exact rfl; exact rfl; exact rfl; intro _ _))
  rename_i b4 _ b5 _
  refine TL_callV rfl rfl rfl (fun w _ => c31 w) ?_
  repeat' (first | refine rn ?_ | (apply TL_box; exact rfl; exact rfl; exact rfl; intro _ _) | (apply TL_alloc; exact rfl; intro _ _) | (apply TL_buildSlice; exact rfl; exact rfl; exact rfl; exact rfl; exact rfl; intro _ _))
  refine TL_callV rfl rfl rfl (fun w h => c36 f b ao c l lo lc hl hl2 w (h.sl ha) (h.sl hal)) ?_
  repeat' (first | refine rn ?_ | (apply TL_box; exact rfl; exact rfl; exact rfl; intro _ _) | (apply TL_alloc; exact rfl; intro _ _) | (apply TL_buildSlice; exact rfl; exact rfl; exact rfl; exact rfl; exact rfl; intro _ _))
  refine TL_gsplit_dec rfl rfl (fun g1 => ?_) (fun g1 => ?_)
  · repeat' (first | refine rn ?_ | (apply TL_box; exact rfl; exact rfl; exact rfl; intro _ _) | (apply TL_alloc; exact rfl; intro _ _) | (apply TL_buildSlice; exact rfl; exact rfl; exact rfl; exact rfl; exact rfl; intro _ _))
    exact TQ_ret1 Try.results9 (RV.tmp rfl) (fun w' hs => ⟨rfl, hs.below⟩)
  repeat' (first | refine rn ?_ | (apply TL_box; exact rfl; exact rfl; exact rfl; intro _ _) | (apply TL_alloc; exact rfl; intro _ _) | (apply TL_buildSlice; exact rfl; exact rfl; exact rfl; exact rfl; exact rfl; intro _ _))
  refine TL_gsplit_dec rfl rfl (fun g2 => ?_) (fun g2 => ?_)
  · repeat' (first | refine rn ?_ | (apply TL_box; exact rfl; exact rfl; exact rfl; intro _ _) | (apply TL_alloc; exact rfl; intro _ _) | (apply TL_buildSlice; exact rfl; exact rfl; exact rfl; exact rfl; exact rfl; intro _ _))
    exact TQ_ret1 Try.results9 (RV.tmp rfl) (fun w' hs => ⟨rfl, hs.below⟩)
  repeat' (first | refine rn ?_ | (apply TL_box; exact rfl; exact rfl; exact rfl; intro _ _) | (apply TL_alloc; exact rfl; intro _ _) | (apply TL_buildSlice; exact rfl; exact rfl; exact rfl; exact rfl; exact rfl; intro _ _))
  refine TL_gsplit_dec rfl rfl (fun g3 => ?_) (fun g3 => ?_)
  · repeat' (first | refine rn ?_ | (apply TL_box; exact rfl; exact rfl; exact rfl; intro _ _) | (apply TL_alloc; exact rfl; intro _ _) | (apply TL_buildSlice; exact rfl; exact rfl; exact rfl; exact rfl; exact rfl; intro _ _))
    exact TQ_ret1 Try.results9 (RV.tmp rfl) (fun w' hs => ⟨rfl, hs.below⟩)
  repeat' (first | refine rn ?_ | (apply TL_box; exact rfl; exact rfl; exact rfl; intro _ _) | (apply TL_alloc; exact rfl; intro _ _) | (apply TL_buildSlice; exact rfl; exact rfl; exact rfl; exact rfl; exact rfl; intro _ _))
  have hrdy : Rdy f b l := Classical.not_not.1 g1
  obtain ⟨⟨r1', r2'⟩, hchk, hcut⟩ := hrdy
  obtain ⟨hf, hbn⟩ := checkR_ok hchk
  obtain ⟨bl, n, hbe, hn, hbc, hbl, htop⟩ := best_top hf hbn (most := most) ⟨by omega, by omega⟩
  have c29' := fun w h => c29 f b ao c most (by omega) w h
  rw [hbe] at c29'
  have c23y := fun so sc w h1 h2 => c23 f b ao c bl so sc (by omega) (by omega) w h1 h2
  rw [cutF_ok hchk hbc] at c23y
  have c23z := fun w h1 h2 => c23 f b ao c l lo lc (by omega) (by omega) w h1 h2
  rw [cutF_ok hchk hcut] at c23z
  have htop' := htop l hcut
  change n = (cutR f b bl).worth.1 at hn
  change _ → (cutR f b l).worth.1 < n ∨ ((cutR f b l).worth.1 = n ∧ _) at htop'
  generalize cutR f b bl = y at c23y hn
  generalize cutR f b l = z at c23z htop'
  refine TL_callN rfl rfl rfl (fun w h => c29' w (h.sl ha)) ?_
  rintro ⟨so, sc, ob⟩ hrow
  replace hrow : Row 3 1 encI so sc ob bl := hrow
  dsimp only
  repeat' (first | (refine TL_gtr_f rfl rfl rfl (by omega) ?_) | refine r1 ?_ | (apply TL_box; exact rfl; exact rfl; exact rfl; intro _ _) | (apply TL_alloc; exact rfl; intro _ _) | (apply TL_buildSlice; exact rfl; exact rfl; exact rfl; exact rfl; exact rfl; intro _ _))
  have c41' := fun w h => c41 b ao c bl so sc (by omega) (by omega) w h
  rw [hbc] at c41'
  refine TL_callV rfl rfl rfl (fun w h => c41' w (hrow.sl h (fun p hp => List.mem_append_left _ hp))) ?_
  repeat' (first | refine rn ?_ | (apply TL_box; exact rfl; exact rfl; exact rfl; intro _ _) | (apply TL_alloc; exact rfl; intro _ _) | (apply TL_buildSlice; exact rfl; exact rfl; exact rfl; exact rfl; exact rfl; intro _ _))
  refine TL_callV rfl rfl rfl (fun w h => c23y so sc w (h.sl ha) (hrow.sl h (fun p hp => List.mem_append_left _ hp))) ?_
  repeat' (first | refine rn ?_ | (apply TL_box; exact rfl; exact rfl; exact rfl; intro _ _) | (apply TL_alloc; exact rfl; intro _ _) | (apply TL_buildSlice; exact rfl; exact rfl; exact rfl; exact rfl; exact rfl; intro _ _))
  refine TL_callV rfl rfl rfl (fun w h => c23z w (h.sl ha) (h.sl hal)) ?_
  repeat' (first | (refine TL_neq_f rfl rfl rfl (by omega) ?_) | (refine TL_neq_f rfl rfl rfl hn.symm ?_) | refine r1 ?_ | (apply TL_box; exact rfl; exact rfl; exact rfl; intro _ _) | (apply TL_alloc; exact rfl; intro _ _) | (apply TL_buildSlice; exact rfl; exact rfl; exact rfl; exact rfl; exact rfl; intro _ _))
  refine TL_gsplit_dec rfl rfl (fun g4 => ?_) (fun g4 => ?_)
  · repeat' (first | refine rn ?_ | (apply TL_box; exact rfl; exact rfl; exact rfl; intro _ _) | (apply TL_alloc; exact rfl; intro _ _) | (apply TL_buildSlice; exact rfl; exact rfl; exact rfl; exact rfl; exact rfl; intro _ _))
    exact TQ_ret1 Try.results9 (RV.tmp rfl) (fun w' hs => ⟨rfl, hs.below⟩)
  have htop := htop' (by omega)
  repeat' (first | refine rn ?_ | (apply TL_box; exact rfl; exact rfl; exact rfl; intro _ _) | (apply TL_alloc; exact rfl; intro _ _) | (apply TL_buildSlice; exact rfl; exact rfl; exact rfl; exact rfl; exact rfl; intro _ _))
  refine TC_cond_dec rfl (fun g5 => ?_) (fun g5 => ?_)
  · repeat' (first | refine rn ?_ | (apply TL_box; exact rfl; exact rfl; exact rfl; intro _ _) | (apply TL_alloc; exact rfl; intro _ _) | (apply TL_buildSlice; exact rfl; exact rfl; exact rfl; exact rfl; exact rfl; intro _ _))
    exact TQ_ret1 Try.results9 (RV.tmp rfl) (fun w' hs => ⟨rfl, hs.below⟩)
  dsimp only at g5
  have hbef : z.worth.1 = n ∧ Pick.bef l bl = false := by
    rcases htop with h | h
    · exact absurd h g5
    · exact h
  obtain ⟨hzn, hbef⟩ := hbef
  have hlen : ¬ l.length < bl.length := by
    intro h
    unfold Pick.bef at hbef
    rw [if_neg (by omega)] at hbef
    simp at hbef; omega
  repeat' (first | (refine TL_gtr_f rfl rfl rfl (by first | omega | (dsimp only; omega)) ?_) | (refine TL_lss_f rfl rfl rfl (by first | omega | (dsimp only; omega)) ?_) | refine r1 ?_ | (apply TL_box; exact rfl; exact rfl; exact rfl; intro _ _) | (apply TL_alloc; exact rfl; intro _ _) | (apply TL_buildSlice; exact rfl; exact rfl; exact rfl; exact rfl; exact rfl; intro _ _))
  rename_i b13 _ b15 _
  refine TC_loop (σ := Nat) (fun k => k ≤ bl.length ∧ (l.length = bl.length → ∀ i, i < k → l[i]? = bl[i]?)) (fun k => [(3, .slice lo l.length lc), (9, .bool true), (10, .slice so bl.length sc), (111, .int .i64 bl.length), (112, .int .i64 k)])
    (fun _ => ob) (fun k => bl.length - k) 0 ⟨Nat.zero_le _, fun _ i hi => by omega⟩ sb (fun w h => h.sub (by repeat (first | exact List.sublist_append_left _ _ | apply List.Sublist.cons))) (fun k hk => ?_)
  obtain ⟨hk, hag⟩ := hk
  repeat' (first | refine rn ?_ | (apply TL_box; exact rfl; exact rfl; exact rfl; intro _ _) | (apply TL_alloc; exact rfl; intro _ _) | (apply TL_buildSlice; exact rfl; exact rfl; exact rfl; exact rfl; exact rfl; intro _ _))
  refine TC_cond_dec rfl (fun h1 => ?_) (fun h1 => ?_)
  · have hlt : k < bl.length := by omega
    by_cases he : l.length = bl.length
    · obtain ⟨x, hx⟩ : ∃ x, bl[k]? = some x := ⟨_, List.getElem?_eq_getElem hlt⟩
      obtain ⟨y', hy⟩ : ∃ y, l[k]? = some y := ⟨_, List.getElem?_eq_getElem (by omega)⟩
      have hei : ((l.length : Nat) : Int) = ((bl.length : Nat) : Int) := by rw [he]
      by_cases hxy : x = y'
      · subst hxy
        repeat' (first | refine rn ?_ | (apply TL_box; exact rfl; exact rfl; exact rfl; intro _ _) | (apply TL_alloc; exact rfl; intro _ _) | (apply TL_buildSlice; exact rfl; exact rfl; exact rfl; exact rfl; exact rfl; intro _ _))
        apply TC_draw 16; kernel_rfl; exact Try.mixed
        · iterate 4 (refine' pv ?_; rotate_left)
          (refine' PG.val rfl rfl (by intro _X; refine TL_eql_t rfl rfl rfl hei ?_; exact qe) ?_; rotate_left)
          (refine' pv ?_; rotate_left)
          iterate 2 (refine' pg ?_; rotate_left)
          (refine' PG.val rfl rfl (by intro _X; (refine TL_guard_yes rfl rfl rfl ?_); refine TL_index k rfl rfl rfl (fun w h => hrow.sl h (fun p hp => by repeat (first | exact hp | exact List.mem_append_left _ hp | apply List.mem_append_right | apply List.mem_cons_of_mem))) rfl hlt (Nat.le_refl _) ?_; exact qe) ?_; rotate_left)
          (refine' PG.val rfl rfl (by intro _X; (refine TL_guard_yes rfl rfl rfl ?_); refine TL_load_el1 (u := x) rfl rfl (fun w h => hrow.sl h (fun p hp => by repeat (first | exact hp | exact List.mem_append_left _ hp | apply List.mem_append_right | apply List.mem_cons_of_mem))) hx rfl ?_; exact qe) ?_; rotate_left)
          iterate 2 (refine' pg ?_; rotate_left)
          (refine' PG.val rfl rfl (by intro _X; (refine TL_guard_yes rfl rfl rfl ?_); refine TL_index k rfl rfl rfl (fun w h => h.sl hal) rfl (by omega) (Nat.le_refl _) ?_; exact qe) ?_; rotate_left)
          (refine' PG.val rfl rfl (by intro _X; (refine TL_guard_yes rfl rfl rfl ?_); refine TL_load_el1 (u := x) rfl rfl (fun w h => h.sl hal) hy rfl ?_; exact qe) ?_; rotate_left)
          (refine' PG.val rfl rfl (by intro _X; (refine TL_guard_yes rfl rfl rfl ?_); refine TL_neq_f rfl rfl rfl rfl ?_; exact qe) ?_; rotate_left)
          (refine' pv ?_; rotate_left)
          exact PG.nil
        change TL _ _ _ _ _ _ _ _ _ _ _
        repeat' (first | refine rn ?_ | (apply TL_box; exact rfl; exact rfl; exact rfl; intro _ _) | (apply TL_alloc; exact rfl; intro _ _) | (apply TL_buildSlice; exact rfl; exact rfl; exact rfl; exact rfl; exact rfl; intro _ _))
        refine TQ_round (k + 1) ⟨hlt, fun h i hi => ?_⟩ (by omega) sb (fun w h => h)
        rcases Nat.lt_or_ge i k with h2 | h2
        · exact hag h i h2
        · rw [show i = k by omega, hx, hy]
      · have hlex : x < y' := lex_at l bl k y' x (by unfold Pick.bef at hbef; rw [if_pos he] at hbef; exact hbef) (hag he) hy hx (fun h => hxy h.symm)
        repeat' (first | refine rn ?_ | (apply TL_box; exact rfl; exact rfl; exact rfl; intro _ _) | (apply TL_alloc; exact rfl; intro _ _) | (apply TL_buildSlice; exact rfl; exact rfl; exact rfl; exact rfl; exact rfl; intro _ _))
        apply TC_draw 16; kernel_rfl; exact Try.mixed
        · iterate 4 (refine' pv ?_; rotate_left)
          (refine' PG.val rfl rfl (by intro _X; refine TL_eql_t rfl rfl rfl hei ?_; exact qe) ?_; rotate_left)
          (refine' pv ?_; rotate_left)
          iterate 2 (refine' pg ?_; rotate_left)
          (refine' PG.val rfl rfl (by intro _X; (refine TL_guard_yes rfl rfl rfl ?_); refine TL_index k rfl rfl rfl (fun w h => hrow.sl h (fun p hp => by repeat (first | exact hp | exact List.mem_append_left _ hp | apply List.mem_append_right | apply List.mem_cons_of_mem))) rfl hlt (Nat.le_refl _) ?_; exact qe) ?_; rotate_left)
          (refine' PG.val rfl rfl (by intro _X; (refine TL_guard_yes rfl rfl rfl ?_); refine TL_load_el1 (u := x) rfl rfl (fun w h => hrow.sl h (fun p hp => by repeat (first | exact hp | exact List.mem_append_left _ hp | apply List.mem_append_right | apply List.mem_cons_of_mem))) hx rfl ?_; exact qe) ?_; rotate_left)
          iterate 2 (refine' pg ?_; rotate_left)
          (refine' PG.val rfl rfl (by intro _X; (refine TL_guard_yes rfl rfl rfl ?_); refine TL_index k rfl rfl rfl (fun w h => h.sl hal) rfl (by omega) (Nat.le_refl _) ?_; exact qe) ?_; rotate_left)
          (refine' PG.val rfl rfl (by intro _X; (refine TL_guard_yes rfl rfl rfl ?_); refine TL_load_el1 (u := y') rfl rfl (fun w h => h.sl hal) hy rfl ?_; exact qe) ?_; rotate_left)
          (refine' PG.val rfl rfl (by intro _X; (refine TL_guard_yes rfl rfl rfl ?_); refine TL_neq_t rfl rfl rfl hxy ?_; exact qe) ?_; rotate_left)
          (refine' pv ?_; rotate_left)
          exact PG.nil
        change TL _ _ _ _ _ _ _ _ _ _ _
        repeat' (first | refine rn ?_ | (apply TL_box; exact rfl; exact rfl; exact rfl; intro _ _) | (apply TL_alloc; exact rfl; intro _ _) | (apply TL_buildSlice; exact rfl; exact rfl; exact rfl; exact rfl; exact rfl; intro _ _))
        apply TC_draw 12; kernel_rfl; exact Try.mixed
        · iterate 2 (refine' pv ?_; rotate_left)
          iterate 2 (refine' pg ?_; rotate_left)
          (refine' PG.val rfl rfl (by intro _X; (refine TL_guard_yes rfl rfl rfl ?_); refine TL_index k rfl rfl rfl (fun w h => hrow.sl h (fun p hp => by repeat (first | exact hp | exact List.mem_append_left _ hp | apply List.mem_append_right | apply List.mem_cons_of_mem))) rfl hlt (Nat.le_refl _) ?_; exact qe) ?_; rotate_left)
          (refine' PG.val rfl rfl (by intro _X; (refine TL_guard_yes rfl rfl rfl ?_); refine TL_load_el1 (u := x) rfl rfl (fun w h => hrow.sl h (fun p hp => by repeat (first | exact hp | exact List.mem_append_left _ hp | apply List.mem_append_right | apply List.mem_cons_of_mem))) hx rfl ?_; exact qe) ?_; rotate_left)
          iterate 2 (refine' pg ?_; rotate_left)
          (refine' PG.val rfl rfl (by intro _X; (refine TL_guard_yes rfl rfl rfl ?_); refine TL_index k rfl rfl rfl (fun w h => h.sl hal) rfl (by omega) (Nat.le_refl _) ?_; exact qe) ?_; rotate_left)
          (refine' PG.val rfl rfl (by intro _X; (refine TL_guard_yes rfl rfl rfl ?_); refine TL_load_el1 (u := y') rfl rfl (fun w h => h.sl hal) hy rfl ?_; exact qe) ?_; rotate_left)
          (refine' PG.val rfl rfl (by intro _X; (refine TL_guard_yes rfl rfl rfl ?_); refine TL_lss_t rfl rfl rfl hlex ?_; exact qe) ?_; rotate_left)
          (refine' pv ?_; rotate_left)
          exact PG.nil
        change TL _ _ _ _ _ _ _ _ _ _ _
        repeat' (first | refine rn ?_ | (apply TL_box; exact rfl; exact rfl; exact rfl; intro _ _) | (apply TL_alloc; exact rfl; intro _ _) | (apply TL_buildSlice; exact rfl; exact rfl; exact rfl; exact rfl; exact rfl; intro _ _))
        exact TQ_ret1 Try.results9 (RV.tmp rfl) (fun w' hs => ⟨rfl, hs.below⟩)
    · have hei : ¬ ((l.length : Nat) : Int) = ((bl.length : Nat) : Int) := by omega
      repeat' (first | refine rn ?_ | (apply TL_box; exact rfl; exact rfl; exact rfl; intro _ _) | (apply TL_alloc; exact rfl; intro _ _) | (apply TL_buildSlice; exact rfl; exact rfl; exact rfl; exact rfl; exact rfl; intro _ _))
      apply TC_draw 16; kernel_rfl; exact Try.mixed
      · iterate 4 (refine' pv ?_; rotate_left)
        (refine' PG.val rfl rfl (by intro _X; refine TL_eql_f rfl rfl rfl hei ?_; exact qe) ?_; rotate_left)
        (refine' pv ?_; rotate_left)
        iterate 9 (refine' pv ?_; rotate_left)
        (refine' pv ?_; rotate_left)
        exact PG.nil
      change TL _ _ _ _ _ _ _ _ _ _ _
      repeat' (first | refine rn ?_ | (apply TL_box; exact rfl; exact rfl; exact rfl; intro _ _) | (apply TL_alloc; exact rfl; intro _ _) | (apply TL_buildSlice; exact rfl; exact rfl; exact rfl; exact rfl; exact rfl; intro _ _))
      refine TQ_round (k + 1) ⟨hlt, fun h i hi => absurd h he⟩ (by omega) sb (fun w h => h)
  · repeat' (first | refine rn ?_ | (apply TL_box; exact rfl; exact rfl; exact rfl; intro _ _) | (apply TL_alloc; exact rfl; intro _ _) | (apply TL_buildSlice; exact rfl; exact rfl; exact rfl; exact rfl; exact rfl; intro _ _))
    exact TQ_ret1 Try.results9 (RV.tmp rfl) (fun w' hs => ⟨rfl, hs.below⟩)
end Go.Proofs.Ytccgplomnjpniaa
