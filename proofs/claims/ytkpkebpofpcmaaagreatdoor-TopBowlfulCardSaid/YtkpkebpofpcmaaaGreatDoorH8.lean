/- Walks of the package hour: Night. -/
import Derived.Test.YtkpkebpofpcmaaaGreatDoorH7
import Derived.Test.YtkpkebpofpcmaaaGreatDoorEngR
namespace Go.Proofs.YtkpkebpofpcmaaaGreatDoor
open Go Go.Eng Go.RowKit Go.Proofs
set_option maxHeartbeats 4000000
set_option maxRecDepth 10000
attribute [local irreducible] TL TC TQ

def mosW (k : Ck) (l : List Cg) (T : List Sp) (j : Nat) : List Sp := (List.range j).map (momW k l T)
theorem mosW_len (k : Ck) (l : List Cg) (T : List Sp) (j : Nat) : (mosW k l T j).length = j := by simp [mosW]
theorem mosW_succ (k : Ck) (l : List Cg) (T : List Sp) (j : Nat) : mosW k l T (j + 1) = mosW k l T j ++ [momW k l T j] := by simp [mosW, List.range_succ]
/-- Backward: what a moment can be told from the next one. -/
def bkW (k : Ck) (l : List Cg) : Nat → List Sp → List Sp
  | 0, A => A
  | i + 1, A => bkW k l i (A.set i (comW (A.getD i (0, 0)) [(wr ((A.getD (i + 1) (0, 0)).1 - (stepW k (l.getD (i + 1) cg0)).2), wr ((A.getD (i + 1) (0, 0)).2 - (stepW k (l.getD (i + 1) cg0)).1))]))
/-- What the moments of changes are known to be. -/
def nightOk (k : Ck) (day : Int) (l : List Cg) : Prop := openE k day = 0 ∧ l.length ≤ 20 ∧ okCgs (k, day) l ∧ ∀ i, i < l.length → momW k l (l.map (vvW (k, day))) i ≠ (1, 0)
/-- The moments, where they are kept, and an error. -/
structure NightR (k : Ck) (day : Int) (l : List Cg) (m : List Sp) (e : Int) : Prop where
  len : m.length ≤ 20
  ok : nightOk k day l → e = 0
  all : e = 0 → m.length = l.length ∧ ∀ i, i + 1 = l.length → m[i]? = some (minW (momW k l (l.map (vvW (k, day))) i))
  mom : e = 0 → m = (bkW k l (l.length - 1) (mosW k l (l.map (vvW (k, day))) l.length)).map minW
theorem NightR.err {k : Ck} {day : Int} {l : List Cg} {e : Int} (h : ¬ nightOk k day l) (he : e ≠ 0) : NightR k day l [] e := ⟨by simp, fun h' => absurd h' h, fun h' => absurd h' he, fun h' => absurd h' he⟩
theorem c10 (k : Ck) (day : Int) (l : List Cg) (ao : Option Addr) (cc : Nat) (hn : l.length ≤ 1000000) (ht : ∀ c ∈ l, c.told.length ≤ 1000000) (w : World) (hk : CkAt w k) (hl : CgAt w ao l) (hv : Nv w) :
    Calls Tryz.prog 10 #[.agg (encCk k).toArray, .int .i64 day, .slice ao l.length cc] w
      (RetP w.heap.size w (fun q : List Sp × Option Addr × Nat × Hp × Int × Int => .tuple #[.slice q.2.1 q.1.length q.2.2.1, .int .i64 q.2.2.2.2.1, .int .i64 q.2.2.2.2.2]) (fun q => q.2.2.2.1) (fun q => Row 25 2 encSp q.2.1 q.2.2.1 q.2.2.2.1 q.1 ∧ NightR k day l q.1 q.2.2.2.2.2)) := by
  refine enterM (args := [.agg (encCk k).toArray, .int .i64 day, .slice ao l.length cc]) Tryz.func10 rfl Tryz.ntmps10 rfl (SH.refl _) ?_
  repeat' (first | refine rn ?_ | (refine zb ?_; intro _ _) | (refine za ?_; intro _ _) | (refine zs ?_; intro _ _))
  rename_i b3 _ b6 _ b7 _ b8 _
  by_cases ho : openE k day = 0
  rotate_left
  · refine TL_callV rfl rfl rfl (fun w h => c34_no k day w (hk.mono h.below) ho) ?_
    unfold zKp
    repeat' (first | refine rn ?_ | (refine zb ?_; intro _ _) | (refine za ?_; intro _ _) | (refine zs ?_; intro _ _))
    refine TC_cond_t rfl (decide_eq_true ho) ?_
    refine TC_seq ?_
    refine TC_any Tryz.mixed ?_
    have hno : ¬ nightOk k day l := fun h => ho h.1
    refine TA_stepL [0, 1] (by kernel_rfl) rfl ⟨?_, ?_, trivial⟩
    · change TL _ _ _ _ _ _ _ _ _ _ _
      refine r1 ?_; apply TL_nil; apply TQ_any
      refine TA_stepL [1] (by kernel_rfl) rfl ⟨?_, trivial⟩
      change TL _ _ _ _ _ _ _ _ _ _ _
      refine r1 ?_; apply TL_nil; apply TQ_any
      refine TA_stepL [2] (by kernel_rfl) rfl ⟨?_, trivial⟩
      change TL _ _ _ _ _ _ _ _ _ _ _
      refine r1 ?_; apply TL_nil; apply TQ_any
      refine TA_stepL [3] (by kernel_rfl) rfl ⟨?_, trivial⟩
      change TL _ _ _ _ _ _ _ _ _ _ _
      refine r1 ?_; apply TL_nil; apply TQ_any
      refine TA_done (by kernel_rfl) ?_
      ((repeat refine r1 ?_); exact TQ_leaveM0 (rs := [.cell 6 22, .cell 7 3, .cell 8 34]) (vs := [.slice none 0 0, .int .i64 0, .int .i64 (openE k day)]) (.inl rfl) Tryz.results10 ⟨RV.cell1 rfl mm (by rfl), RV.cell1 rfl mm (by rfl), RV.cell1 rfl mm (by rfl), trivial⟩ (fun w' hs => ⟨([], none, 0, [], 0, openE k day), ⟨Row.nil _ _ _, NightR.err hno ho⟩, rfl, hs.sub (List.nil_sublist _)⟩))
    · change TL _ _ _ _ _ _ _ _ _ _ _
      refine r1 ?_; apply TL_nil; apply TQ_any
      refine TA_stepL [0, 2] (by kernel_rfl) rfl ⟨?_, ?_, trivial⟩
      · change TL _ _ _ _ _ _ _ _ _ _ _
        refine r1 ?_; apply TL_nil; apply TQ_any
        refine TA_stepL [2] (by kernel_rfl) rfl ⟨?_, trivial⟩
        change TL _ _ _ _ _ _ _ _ _ _ _
        refine r1 ?_; apply TL_nil; apply TQ_any
        refine TA_stepL [3] (by kernel_rfl) rfl ⟨?_, trivial⟩
        change TL _ _ _ _ _ _ _ _ _ _ _
        refine r1 ?_; apply TL_nil; apply TQ_any
        refine TA_done (by kernel_rfl) ?_
        ((repeat refine r1 ?_); exact TQ_leaveM0 (rs := [.cell 6 22, .cell 7 3, .cell 8 34]) (vs := [.slice none 0 0, .int .i64 0, .int .i64 (openE k day)]) (.inl rfl) Tryz.results10 ⟨RV.cell1 rfl mm (by rfl), RV.cell1 rfl mm (by rfl), RV.cell1 rfl mm (by rfl), trivial⟩ (fun w' hs => ⟨([], none, 0, [], 0, openE k day), ⟨Row.nil _ _ _, NightR.err hno ho⟩, rfl, hs.sub (List.nil_sublist _)⟩))
      · change TL _ _ _ _ _ _ _ _ _ _ _
        refine r1 ?_; apply TL_nil; apply TQ_any
        refine TA_stepL [0] (by kernel_rfl) rfl ⟨?_, trivial⟩
        change TL _ _ _ _ _ _ _ _ _ _ _
        refine r1 ?_; apply TL_nil; apply TQ_any
        refine TA_stepL [3] (by kernel_rfl) rfl ⟨?_, trivial⟩
        change TL _ _ _ _ _ _ _ _ _ _ _
        refine r1 ?_; apply TL_nil; apply TQ_any
        refine TA_done (by kernel_rfl) ?_
        ((repeat refine r1 ?_); exact TQ_leaveM0 (rs := [.cell 6 22, .cell 7 3, .cell 8 34]) (vs := [.slice none 0 0, .int .i64 0, .int .i64 (openE k day)]) (.inl rfl) Tryz.results10 ⟨RV.cell1 rfl mm (by rfl), RV.cell1 rfl mm (by rfl), RV.cell1 rfl mm (by rfl), trivial⟩ (fun w' hs => ⟨([], none, 0, [], 0, openE k day), ⟨Row.nil _ _ _, NightR.err hno ho⟩, rfl, hs.sub (List.nil_sublist _)⟩))
  refine TL_callV rfl rfl rfl (fun w h => c34_ok k day w (hk.mono h.below) ho) ?_
  repeat' (first | refine rn ?_ | (refine zb ?_; intro _ _) | (refine za ?_; intro _ _) | (refine zs ?_; intro _ _))
  rename_i b9 _
  refine TC_cond_dec rfl (fun g1 => ?_) (fun g1 => ?_)
  · have hno : ¬ nightOk k day l := fun h => by have := h.2.1; omega
    repeat' (first | refine rn ?_ | (refine zb ?_; intro _ _) | (refine za ?_; intro _ _) | (refine zs ?_; intro _ _))
    exact TQ_leaveM0 (rs := [.cell 6 22, .cell 7 3, .cell 8 34]) (vs := [.slice none 0 0, .int .i64 0, .int .i64 4]) (.inl rfl) Tryz.results10 ⟨RV.cell1 rfl mm (by rfl), RV.cell1 rfl mm (by rfl), RV.cell1 rfl mm (by rfl), trivial⟩ (fun w' hs => ⟨([], none, 0, [], 0, 4), ⟨Row.nil _ _ _, NightR.err hno (show (4 : Int) ≠ 0 by decide)⟩, rfl, hs.sub (List.nil_sublist _)⟩)
  repeat' (first | refine rn ?_ | (refine zb ?_; intro _ _) | (refine za ?_; intro _ _) | (refine zs ?_; intro _ _))
  refine TL_callN rfl rfl rfl (fun w h => c35 (k, day) l ao cc hn ht w (hl.mono h.below) (hk.mono h.below) (hv.mono h.below)) ?_
  rintro ⟨right, to_, tc, to_b, at_, T⟩ ⟨hrT, hok, hok2⟩
  dsimp only at hrT hok hok2 ⊢
  repeat' (first | refine rn ?_ | (refine zb ?_; intro _ _) | (refine za ?_; intro _ _) | (refine zs ?_; intro _ _))
  cases right with
  | false =>
    have hno : ¬ nightOk k day l := fun h => by have := hok2 h.2.2.1; cases this
    repeat' (first | refine rn ?_ | (refine zb ?_; intro _ _) | (refine za ?_; intro _ _) | (refine zs ?_; intro _ _))
    refine TC_any Tryz.mixed ?_
    refine TA_stepL [0, 1] (by kernel_rfl) rfl ⟨?_, ?_, trivial⟩
    · change TL _ _ _ _ _ _ _ _ _ _ _
      refine r1 ?_; apply TL_nil; apply TQ_any
      refine TA_stepL [1] (by kernel_rfl) rfl ⟨?_, trivial⟩
      change TL _ _ _ _ _ _ _ _ _ _ _
      refine r1 ?_; apply TL_nil; apply TQ_any
      refine TA_stepL [2] (by kernel_rfl) rfl ⟨?_, trivial⟩
      change TL _ _ _ _ _ _ _ _ _ _ _
      refine r1 ?_; apply TL_nil; apply TQ_any
      refine TA_stepL [3] (by kernel_rfl) rfl ⟨?_, trivial⟩
      change TL _ _ _ _ _ _ _ _ _ _ _
      refine r1 ?_; apply TL_nil; apply TQ_any
      refine TA_done (by kernel_rfl) ?_
      ((repeat refine r1 ?_); exact TQ_leaveM0 (rs := [.cell 6 22, .cell 7 3, .cell 8 34]) (vs := [.slice none 0 0, .int .i64 at_, .int .i64 33]) (.inl rfl) Tryz.results10 ⟨RV.cell1 rfl mm (by rfl), RV.cell1 rfl mm (by rfl), RV.cell1 rfl mm (by rfl), trivial⟩ (fun w' hs => ⟨([], none, 0, [], at_, 33), ⟨Row.nil _ _ _, NightR.err hno (show (33 : Int) ≠ 0 by decide)⟩, rfl, hs.sub (List.nil_sublist _)⟩))
    · change TL _ _ _ _ _ _ _ _ _ _ _
      refine r1 ?_; apply TL_nil; apply TQ_any
      refine TA_stepL [0] (by kernel_rfl) rfl ⟨?_, trivial⟩
      change TL _ _ _ _ _ _ _ _ _ _ _
      refine r1 ?_; apply TL_nil; apply TQ_any
      refine TA_stepL [2] (by kernel_rfl) rfl ⟨?_, trivial⟩
      change TL _ _ _ _ _ _ _ _ _ _ _
      refine r1 ?_; apply TL_nil; apply TQ_any
      refine TA_stepL [3] (by kernel_rfl) rfl ⟨?_, trivial⟩
      change TL _ _ _ _ _ _ _ _ _ _ _
      refine r1 ?_; apply TL_nil; apply TQ_any
      refine TA_done (by kernel_rfl) ?_
      ((repeat refine r1 ?_); exact TQ_leaveM0 (rs := [.cell 6 22, .cell 7 3, .cell 8 34]) (vs := [.slice none 0 0, .int .i64 at_, .int .i64 33]) (.inl rfl) Tryz.results10 ⟨RV.cell1 rfl mm (by rfl), RV.cell1 rfl mm (by rfl), RV.cell1 rfl mm (by rfl), trivial⟩ (fun w' hs => ⟨([], none, 0, [], at_, 33), ⟨Row.nil _ _ _, NightR.err hno (show (33 : Int) ≠ 0 by decide)⟩, rfl, hs.sub (List.nil_sublist _)⟩))
  | true =>
    obtain ⟨hoks, rfl⟩ := hok rfl
    clear hok hok2
    have hTl : (l.map (vvW (k, day))).length = l.length := List.length_map _
    repeat' (first | refine rn ?_ | (refine zb ?_; intro _ _) | (refine za ?_; intro _ _) | (refine zs ?_; intro _ _))
    rename_i b12 _
    refine TL_callN rfl rfl rfl (fun w h => c36 (k, day) l ao cc (l.map (vvW (k, day))) to_ tc w) ?_
    rintro ⟨q3, q4, q5⟩ -
    dsimp only
    repeat' (first | refine rn ?_ | (refine zb ?_; intro _ _) | (refine za ?_; intro _ _) | (refine zs ?_; intro _ _))
    obtain ⟨n, st, hnl, hst, hsf, hnv⟩ : ∃ (n : Nat) (st : Bool), n ≤ l.length ∧ (st = true → 0 < n ∧ momW k l (l.map (vvW (k, day))) (n - 1) = (1, 0)) ∧ (st = false → n = l.length) ∧ ∀ i, i < n → (st = true → i + 1 < n) → momW k l (l.map (vvW (k, day))) i ≠ (1, 0) := by
      rcases first_never (momW k l (l.map (vvW (k, day)))) l.length with h | ⟨s, h1, h2, h3⟩
      · exact ⟨l.length, false, Nat.le_refl _, fun h => (by cases h), fun _ => rfl, fun i hi _ => h i hi⟩
      · exact ⟨s + 1, true, h1, fun _ => ⟨by omega, h2⟩, fun h => (by cases h), fun i hi hi2 => h3 i (by have := hi2 rfl; omega)⟩
    obtain ⟨TT, hTT⟩ : ∃ TT, TT = l.map (vvW (k, day)) := ⟨_, rfl⟩
    rw [← hTT] at hrT hTl hst hnv ⊢
    refine TC_rangeX (σ := Option Addr × Nat × Hp × Nat × Int × Int) (ps := [45, 46]) (k := 82) rfl rfl n st (fun h => (hst h).1) (fun j => [.int .i64 j, .agg (encSp (momW k l TT j)).toArray])
      (fun j x => Row 106 2 encSp x.1 x.2.1 x.2.2.1 (mosW k l TT x.2.2.2.1) ∧ ((st && Nat.beq j n) = false → x.2.2.2.1 = j ∧ x.2.2.2.2.2 = 0) ∧ ((st && Nat.beq j n) = true → x.2.2.2.2.2 = 32))
      (fun x => (b12, .cells [.slice x.1 x.2.2.2.1 x.2.1] 99) :: (x.2.2.1 ++ ((q5, .cells [.slice to_ TT.length tc] 99) :: (q4, .cells [.slice ao l.length cc] 28) :: (q3, .cells (encKp (k, day)) 96) :: (to_b ++ [(b9, .cells (encKp (k, day)) 96), (b8, .cells [.int .i64 x.2.2.2.2.2] 34), (b7, .cells [.int .i64 x.2.2.2.2.1] 3), (b6, .cells [.slice none 0 0] 22), (b3, .cells (encCk k) 27)]))))
      (none, 0, [], 0, at_, 0) ⟨Row.nil _ _ _, fun _ => ⟨rfl, rfl⟩, fun h => ?_⟩ (fun j => rfl) (fun w h => ?_) ?_ ?_ ?_
    · rw [Bool.and_eq_true] at h
      have := (hst h.1).1
      have h2 := Nat.eq_of_beq_eq_true h.2
      omega
    · exact h.perm (List.perm_middle (l₁ := [_, _, _])).symm
    · intro lp Dd rec j x G hj hpx
      obtain ⟨so, sc, ob, len, at1, e1⟩ := x
      obtain ⟨hrow, hp1, -⟩ := hpx
      have hjn : Nat.beq j n = false := by
        cases h : Nat.beq j n with
        | false => rfl
        | true => have := Nat.eq_of_beq_eq_true h; omega
      obtain ⟨rfl, rfl⟩ := hp1 (by rw [hjn, Bool.and_false])
      dsimp only at hrow hj ⊢
      refine TC_he (by simp only [List.cons_append, List.append_assoc, List.nil_append]; rfl) ?_
      cases hb : (st && Nat.beq (len + 1) n) with
      | true =>
        rw [Bool.and_eq_true] at hb
        have h2 := Nat.eq_of_beq_eq_true hb.2
        have hnev := (hst hb.1).2
        rw [← h2, Nat.add_sub_cancel] at hnev
        rw [hnev]
        repeat' (first | refine rn ?_ | (refine zb ?_; intro _ _) | (refine za ?_; intro _ _) | (refine zs ?_; intro _ _))
        rename_i b14 _
        refine TQ_asgX (rec := rec) up ?_
        repeat' (first | refine rn ?_ | (refine zb ?_; intro _ _) | (refine za ?_; intro _ _) | (refine zs ?_; intro _ _))
        refine TL_load_eln (i := 0) (o := 0) rfl rfl (fun w h => h.sl hv) rfl rfl ?_
        repeat' (first | refine rn ?_ | (refine zb ?_; intro _ _) | (refine za ?_; intro _ _) | (refine zs ?_; intro _ _))
        refine TQ_bodyXr (so, sc, ob, len, (len : Int), 32) ⟨hrow, fun h => (by cases h), fun _ => rfl⟩ (fun w h => ?_)
        have h2 := h.sub (List.Sublist.cons _ (List.Sublist.refl _))
        simpa only [List.cons_append, List.append_assoc, List.nil_append] using h2
      | false =>
        have hne := hnv len hj (fun h => by
          rw [h, Bool.true_and] at hb
          have : ¬ len + 1 = n := fun h' => by rw [h'] at hb; simp at hb
          omega)
        repeat' (first | refine rn ?_ | (refine zb ?_; intro _ _) | (refine za ?_; intro _ _) | (refine zs ?_; intro _ _))
        rename_i b14 _
        refine TQ_asgX (rec := rec) up ?_
        repeat' (first | refine rn ?_ | (refine zb ?_; intro _ _) | (refine za ?_; intro _ _) | (refine zs ?_; intro _ _))
        refine TL_load_eln (i := 0) (o := 0) rfl rfl (fun w h => h.sl hv) rfl rfl ?_
        repeat' (first | refine rn ?_ | (refine zb ?_; intro _ _) | (refine za ?_; intro _ _) | (refine zs ?_; intro _ _))
        refine TC_cond_dec rfl (fun g => ?_) (fun g => ?_)
        · exfalso
          apply hne
          have : [(momW k l TT len).1, (momW k l TT len).2] = [1, 0] := g
          simp only [List.cons.injEq, and_true] at this
          exact Prod.ext this.1 this.2
        · repeat' (first | refine rn ?_ | (refine zb ?_; intro _ _) | (refine za ?_; intro _ _) | (refine zs ?_; intro _ _))
          refine TL_append (l := mosW k l TT len) (l2 := [momW k l TT len]) (enc := encSp) (G := _) rfl (by rfl) rfl rfl (mosW_len _ _ _ _).symm rfl rfl hrow (pm_cons (pm_cons (pm_cons (pm_cons (pm_cons pm_here))))) (fun w h => Sl.of_blk h mm (fun _ _ => rfl) ⟨[], by rfl⟩) (fun u _ => rfl) (by simp only [List.length_singleton, mosW_len]; omega) (by simp only [List.length_singleton, maxLen, mosW_len]; omega) (fun so' sc' ob' hrow' => ?_)
          rw [← mosW_succ] at hrow' ⊢
          rw [mosW_len]
          repeat' (first | refine rn ?_ | (refine zb ?_; intro _ _) | (refine za ?_; intro _ _) | (refine zs ?_; intro _ _))
          refine TQ_bodyX (so', sc', ob', len + 1, at1, 0) ⟨hrow', fun _ => ⟨rfl, rfl⟩, fun h => (by cases h)⟩ (fun w h => ?_)
          have h2 := (h.sub (List.Sublist.append_left (List.Sublist.cons _ (List.Sublist.cons _ (List.Sublist.refl _))) _)).perm (List.perm_append_comm_assoc [_, _, _] _ _)
          simpa only [List.cons_append, List.append_assoc, List.nil_append] using h2
    · intro lp Y G hY hyld w hs
      refine c82 (k, day) l ao cc TT to_ tc q3 q4 q5 lp n st _ Y G _ _ (none, 0, [], 0, at_, 0) ?_ hn hTl hnl hst hsf hnv hl hv hY (fun w A y hA h => hrT.sl h (fun q hq => hA q (by simp only [List.mem_append, List.mem_cons, hq, true_or, or_true]))) (fun y => ?_) (fun y => ?_) (fun y => ?_) hyld w hs
      · exact ⟨Row.nil _ _ _, fun _ => ⟨rfl, rfl⟩, fun h => (by
          rw [Bool.and_eq_true] at h
          have := (hst h.1).1
          have h2 := Nat.eq_of_beq_eq_true h.2
          omega)⟩
      · exact mm
      · exact mm
      · exact mm
    · intro Dd x hpx
      obtain ⟨so, sc, ob, len, at1, e1⟩ := x
      obtain ⟨hrow, hp1, hp2⟩ := hpx
      dsimp only at hrow hp1 hp2 ⊢
      cases st with
      | true =>
        have he : e1 = 32 := hp2 (by simp)
        subst he
        have hno : ¬ nightOk k day l := fun h => h.2.2.2 (n - 1) (by have := (hst rfl).1; omega) (by rw [← hTT]; exact (hst rfl).2)
        change TQ _ _ _ _ _ _ _ .ret
        repeat' (first | refine rn ?_ | (refine zb ?_; intro _ _) | (refine za ?_; intro _ _) | (refine zs ?_; intro _ _))
        exact TQ_leaveM (rs := [.cell 6 22, .cell 7 3, .cell 8 34]) (vs := [.slice none 0 0, .int .i64 at1, .int .i64 32]) (.inl rfl) up Tryz.results10 ⟨RV.cell1 rfl mm (by rfl), RV.cell1 rfl mm (by rfl), RV.cell1 rfl mm (by rfl), trivial⟩ (fun w' hs => ⟨([], none, 0, [], at1, 32), ⟨Row.nil _ _ _, NightR.err hno (show (32 : Int) ≠ 0 by decide)⟩, rfl, hs.sub (List.nil_sublist _)⟩)
      | false =>
        obtain ⟨rfl, rfl⟩ := hp1 rfl
        have hnn := hsf rfl
        subst hnn
        repeat' (first | refine rn ?_ | (refine zb ?_; intro _ _) | (refine za ?_; intro _ _) | (refine zs ?_; intro _ _))
        have e0 : ((mosW k l TT l.length).length : Int) = l.length := by rw [mosW_len]
        obtain ⟨R, hR⟩ : ∃ R : Hp, R = (q5, Blk.cells [.slice to_ TT.length tc] 99) :: (q4, .cells [.slice ao l.length cc] 28) :: (q3, .cells (encKp (k, day)) 96) :: (to_b ++ [(b9, .cells (encKp (k, day)) 96), (b8, .cells [.int .i64 0] 34), (b7, .cells [.int .i64 at1] 3), (b6, .cells [.slice none 0 0] 22), (b3, .cells (encCk k) 27)]) := ⟨_, rfl⟩
        refine TC_loop (σ := Nat × List Sp × Hp) (fun q => q.1 ≤ l.length ∧ q.2.1.length = l.length ∧ Row 106 2 encSp so sc q.2.2 q.2.1 ∧ (∀ i, i + 1 = l.length → q.2.1[i]? = some (momW k l TT i)) ∧ bkW k l (q.1 - 1) q.2.1 = bkW k l (l.length - 1) (mosW k l TT l.length)) (fun q => [(2, .slice ao l.length cc), (6, .pointer (some ⟨b6, 0, none⟩)), (7, .pointer (some ⟨b7, 0, none⟩)), (8, .pointer (some ⟨b8, 0, none⟩)), (9, .pointer (some ⟨b9, 0, none⟩)), (12, .pointer (some ⟨b12, 0, none⟩)), (15, .int .i64 ((q.1 : Int) - 1))])
          (fun q => (Dd, .obj (.deferred (some []))) :: (b12, .cells [.slice so l.length sc] 99) :: (q.2.2 ++ ((q5, Blk.cells [.slice to_ TT.length tc] 99) :: (q4, .cells [.slice ao l.length cc] 28) :: (q3, .cells (encKp (k, day)) 96) :: (to_b ++ [(b9, .cells (encKp (k, day)) 96), (b8, .cells [.int .i64 0] 34), (b7, .cells [.int .i64 at1] 3), (b6, .cells [.slice none 0 0] 22), (b3, .cells (encCk k) 27)])))) (fun q => q.1) (l.length, mosW k l TT l.length, ob) ⟨Nat.le_refl _, mosW_len _ _ _ _, hrow, fun i hi => ?_, rfl⟩ sb (fun w h => h) (fun q hq => ?_)
        · rw [mosW, List.getElem?_map, List.getElem?_range (by omega)]; rfl
        obtain ⟨m, A, ob⟩ := q
        obtain ⟨hm, hA, hrow, hlast, hbk⟩ := hq
        dsimp only at hm hA hrow hlast hbk ⊢
        repeat' (first | refine rn ?_ | (refine zb ?_; intro _ _) | (refine za ?_; intro _ _) | (refine zs ?_; intro _ _))
        refine TC_cond_dec rfl (fun h1 => ?_) (fun h1 => ?_)
        · obtain ⟨i, rfl⟩ : ∃ i, m = i + 2 := ⟨m - 2, by omega⟩
          have e15 : ((i + 2 : Nat) : Int) - 1 = ((i + 1 : Nat) : Int) := by omega
          rw [e15]
          obtain ⟨x, hx⟩ : ∃ x, l[i + 1]? = some x := ⟨_, List.getElem?_eq_getElem (by omega)⟩
          obtain ⟨a, ha⟩ : ∃ a, A[i]? = some a := ⟨_, List.getElem?_eq_getElem (by omega)⟩
          obtain ⟨a', ha'⟩ : ∃ a', A[i + 1]? = some a' := ⟨_, List.getElem?_eq_getElem (by omega)⟩
          have hne : A ≠ [] := by intro h; rw [h] at hA; simp at hA; omega
          repeat' (first | refine rn ?_ | (refine zb ?_; intro _ _) | (refine za ?_; intro _ _) | (refine zs ?_; intro _ _))
          apply TC_draw 7; kernel_rfl; exact Tryz.mixed
          · iterate 3 (refine' pv ?_; rotate_left)
            (refine' PG.val rfl rfl (by intro _X; refine TL_index (i + 1) rfl rfl rfl (fun w h => h.sl hl.s) (rfl) (by omega) (Nat.le_refl _) ?_; exact qe) ?_; rotate_left)
            (refine' PG.val rfl rfl (by intro _X; refine TL_load_eln (u := x) rfl rfl (fun w h => h.sl hl.s) hx rfl ?_; exact qe) ?_; rotate_left)
            (refine' PG.val rfl rfl (by intro _X; refine TL_callV rfl rfl rfl (fun w h => c37 (k, day) x w) ?_; exact qe) ?_; rotate_left)
            (refine' pn ?_; rotate_left)
            exact PG.nil
          rintro _ _ ⟨b16, _, rfl, rfl⟩
          change TL _ _ _ _ _ _ _ _ _ _ _
          repeat' (first | refine rn ?_ | (refine zb ?_; intro _ _) | (refine za ?_; intro _ _) | (refine zs ?_; intro _ _))
          apply TC_draw 27; kernel_rfl; exact Tryz.mixed
          · iterate 6 (refine' pv ?_; rotate_left)
            (refine' PG.val rfl rfl (by intro _X; refine TL_index i rfl rfl rfl (fun w h => hrow.sl h (fun x hx => by repeat (first | exact List.mem_append_left _ hx | apply List.mem_append_right | apply List.mem_cons_of_mem))) (by omega) (by omega) (by omega) ?_; exact qe) ?_; rotate_left)
            (refine' PG.val rfl rfl (by intro _X; refine TL_load_eln (u := a) rfl rfl (fun w h => hrow.sl h (fun x hx => by repeat (first | exact List.mem_append_left _ hx | apply List.mem_append_right | apply List.mem_cons_of_mem))) ha rfl ?_; exact qe) ?_; rotate_left)
            iterate 2 (refine' pv ?_; rotate_left)
            (refine' PG.val rfl rfl (by intro _X; refine TL_index (i + 1) rfl rfl rfl (fun w h => hrow.sl h (fun x hx => by repeat (first | exact List.mem_append_left _ hx | apply List.mem_append_right | apply List.mem_cons_of_mem))) (rfl) (by omega) (by omega) ?_; exact qe) ?_; rotate_left)
            (refine' PG.val rfl rfl (by intro _X; refine TL_indexAddrA_el 0 rfl rfl rfl rfl (by decide) (fun w h => hrow.sl h (fun x hx => by repeat (first | exact List.mem_append_left _ hx | apply List.mem_append_right | apply List.mem_cons_of_mem))) hne ?_; exact qe) ?_; rotate_left)
            (refine' PG.val rfl rfl (by intro _X; refine TL_load_el1 (u := a') rfl rfl (fun w h => hrow.sl h (fun x hx => by repeat (first | exact List.mem_append_left _ hx | apply List.mem_append_right | apply List.mem_cons_of_mem))) ha' rfl ?_; exact qe) ?_; rotate_left)
            (refine' PG.val rfl rfl (by intro _X; refine ra ?_; exact qe) ?_; rotate_left)
            (refine' pv ?_; rotate_left)
            (refine' PG.val rfl rfl (by intro _X; refine wo ?_; exact qe) ?_; rotate_left)
            iterate 2 (refine' pv ?_; rotate_left)
            (refine' PG.val rfl rfl (by intro _X; refine TL_index (i + 1) rfl rfl rfl (fun w h => hrow.sl h (fun x hx => by repeat (first | exact List.mem_append_left _ hx | apply List.mem_append_right | apply List.mem_cons_of_mem))) (rfl) (by omega) (by omega) ?_; exact qe) ?_; rotate_left)
            (refine' PG.val rfl rfl (by intro _X; refine TL_indexAddrA_el 1 rfl rfl rfl rfl (by decide) (fun w h => hrow.sl h (fun x hx => by repeat (first | exact List.mem_append_left _ hx | apply List.mem_append_right | apply List.mem_cons_of_mem))) hne ?_; exact qe) ?_; rotate_left)
            (refine' PG.val rfl rfl (by intro _X; refine TL_load_el1 (u := a') rfl rfl (fun w h => hrow.sl h (fun x hx => by repeat (first | exact List.mem_append_left _ hx | apply List.mem_append_right | apply List.mem_cons_of_mem))) ha' rfl ?_; exact qe) ?_; rotate_left)
            (refine' PG.val rfl rfl (by intro _X; refine ra ?_; exact qe) ?_; rotate_left)
            (refine' pv ?_; rotate_left)
            (refine' PG.val rfl rfl (by intro _X; refine wo ?_; exact qe) ?_; rotate_left)
            (refine' pv ?_; rotate_left)
            (refine' PG.rel ((fun v h => ∃ b, v = .slice (some ⟨b, 0, none⟩) 1 1 ∧ h = [(b, .cells ([.int .i64 (wr (a'.1 - (stepW k x).2)), .int .i64 (wr (a'.2 - (stepW k x).1))]) 106)])) rfl rfl (by intro _X; apply TL_buildSlice; exact rfl; exact rfl; exact rfl; exact rfl; exact rfl; intro b _; exact TL_nil (TQ_QR (h := [(b, _)]) rfl ⟨b, rfl, rfl⟩ (fun _ h => h))) ?_; rotate_left)
            (refine' PG.val rfl rfl (by rintro _ _ ⟨b25, rfl, rfl⟩ _X; refine TL_callV rfl rfl rfl (fun w h => c38 a [(wr (a'.1 - (stepW k x).2), wr (a'.2 - (stepW k x).1))] _ 1 (by simp [Small]) w (Sl.of_blk h mm (fun _ _ => rfl) ⟨[], rfl⟩) (hv.mono h.below)) ?_; exact qe) ?_; rotate_left)
            exact PG.nil
          rintro _ _ ⟨b25, rfl, rfl⟩
          change TL _ _ _ _ _ _ _ _ _ _ _
          refine TL_index i rfl rfl rfl (fun w h => hrow.sl h (fun x hx => by repeat (first | exact List.mem_append_left _ hx | apply List.mem_append_right | apply List.mem_cons_of_mem))) (by omega) (by omega) (by omega) ?_
          refine TL_store_el (u := a) (u' := comW a [(wr (a'.1 - (stepW k x).2), wr (a'.2 - (stepW k x).1))]) (fun o => _ :: _ :: _ :: _ :: (o ++ _)) hrow rfl rfl rfl rfl rfl rfl ha rfl rfl (fun b x y => up) (fun ob' hrow' => ?_)
          repeat' (first | refine rn ?_ | (refine zb ?_; intro _ _) | (refine za ?_; intro _ _) | (refine zs ?_; intro _ _))
          refine TQ_round (i + 1, A.set i (comW a [(wr (a'.1 - (stepW k x).2), wr (a'.2 - (stepW k x).1))]), ob') ⟨by omega, by rw [List.length_set]; exact hA, hrow', fun j hj => ?_, ?_⟩ (by dsimp only; omega) sb (fun w h => h.sub su)
          · rw [List.getElem?_set_ne (by omega)]
            exact hlast j hj
          · rw [← hbk]
            show bkW k l i _ = bkW k l (i + 1) A
            rw [bkW, List.getD_eq_getElem?_getD, List.getD_eq_getElem?_getD, List.getD_eq_getElem?_getD, ha, ha', hx]; rfl
        · repeat' (first | refine rn ?_ | (refine zb ?_; intro _ _) | (refine za ?_; intro _ _) | (refine zs ?_; intro _ _))
          refine TC_loop (σ := Nat × Option Addr × Nat × Hp) (fun q => q.1 ≤ l.length ∧ Row 25 2 encSp q.2.1 q.2.2.1 q.2.2.2 ((A.take q.1).map minW)) (fun q => [(6, .pointer (some ⟨b6, 0, none⟩)), (7, .pointer (some ⟨b7, 0, none⟩)), (8, .pointer (some ⟨b8, 0, none⟩)), (96, .slice so l.length sc), (97, .int .i64 l.length), (98, .int .i64 q.1)])
            (fun q => (Dd, .obj (.deferred (some []))) :: (ob ++ (q.2.2.2 ++ [(b8, .cells [.int .i64 0] 34), (b7, .cells [.int .i64 at1] 3), (b6, .cells [.slice q.2.1 q.1 q.2.2.1] 22)]))) (fun q => l.length - q.1) (0, none, 0, []) ⟨Nat.zero_le _, Row.nil _ _ _⟩ sb (fun w h => h.sub su) (fun q hq => ?_)
          obtain ⟨j, so2, sc2, ob2⟩ := q
          obtain ⟨hj, hrow2⟩ := hq
          dsimp only at hj hrow2 ⊢
          have hlen2 : ((A.take j).map minW).length = j := by rw [List.length_map, List.length_take]; omega
          repeat' (first | refine rn ?_ | (refine zb ?_; intro _ _) | (refine za ?_; intro _ _) | (refine zs ?_; intro _ _))
          refine TC_cond_dec rfl (fun h2 => ?_) (fun h2 => ?_)
          · have hjl : j < A.length := by omega
            obtain ⟨x, hx⟩ : ∃ x, A[j]? = some x := ⟨_, List.getElem?_eq_getElem hjl⟩
            have htake : A.take (j + 1) = A.take j ++ [x] := by rw [List.take_add_one, hx]; rfl
            have e4 : (A.take j).map minW ++ [minW x] = (A.take (j + 1)).map minW := by rw [htake, List.map_append]; rfl
            have hlen3 : ((A.take (j + 1)).map minW).length = j + 1 := by rw [← e4, List.length_append, hlen2]; rfl
            repeat' (first | refine rn ?_ | (refine zb ?_; intro _ _) | (refine za ?_; intro _ _) | (refine zs ?_; intro _ _))
            refine TL_index j rfl rfl rfl (fun w h => hrow.sl h (fun x hx => by repeat (first | exact List.mem_append_left _ hx | apply List.mem_append_right | apply List.mem_cons_of_mem))) rfl hjl (by omega) ?_
            refine TL_load_eln (u := x) rfl rfl (fun w h => hrow.sl h (fun x hx => by repeat (first | exact List.mem_append_left _ hx | apply List.mem_append_right | apply List.mem_cons_of_mem))) hx rfl ?_
            repeat' (first | refine rn ?_ | (refine zb ?_; intro _ _) | (refine za ?_; intro _ _) | (refine zs ?_; intro _ _))
            rename_i b18 _
            refine TC_any Tryz.mixed ?_
            refine TA_stepL [0, 1] (by kernel_rfl) rfl ⟨?_, ?_, trivial⟩
            · change TL _ _ _ _ _ _ _ _ _ _ _
              refine r1 ?_; apply TL_nil; apply TQ_any
              refine TA_stepL [1] (by kernel_rfl) rfl ⟨?_, trivial⟩
              change TL _ _ _ _ _ _ _ _ _ _ _
              refine r1 ?_; apply TL_nil; apply TQ_any
              refine TA_stepL [2] (by kernel_rfl) rfl ⟨?_, trivial⟩
              change TL _ _ _ _ _ _ _ _ _ _ _
              refine TL_callV rfl rfl rfl (fun w h => c39 x w) ?_; apply TL_nil; apply TQ_any
              refine TA_stepL [3] (by kernel_rfl) rfl ⟨?_, trivial⟩
              change TL _ _ _ _ _ _ _ _ _ _ _
              (apply TL_buildSlice; exact rfl; exact rfl; exact rfl; exact rfl; exact rfl; intro b105 _); apply TL_nil; apply TQ_any
              refine TA_stepL [4] (by kernel_rfl) rfl ⟨?_, trivial⟩
              change TL _ _ _ _ _ _ _ _ _ _ _
              (refine TL_append (l := (A.take j).map minW) (l2 := [minW x]) (enc := encSp) (G := _) rfl (by rfl) rfl rfl hlen2.symm rfl rfl hrow2 (pm_cons (pm_cons (pm_cons (pmA pm_here)))) (fun w h => Sl.of_blk h mm (fun _ _ => rfl) ⟨[], by rfl⟩) (fun u _ => rfl) (by simp only [List.length_singleton]; omega) (by simp only [List.length_singleton, maxLen]; omega) (fun so' sc' ob' hrow' => ?_); rw [e4] at hrow' ⊢; rw [hlen3]); apply TL_nil; apply TQ_any
              refine TA_stepL [5] (by kernel_rfl) rfl ⟨?_, trivial⟩
              change TL _ _ _ _ _ _ _ _ _ _ _
              refine r1 ?_; apply TL_nil; apply TQ_any
              refine TA_done (by kernel_rfl) ?_
              ((repeat refine r1 ?_); exact TQ_round (j + 1, so', sc', ob') ⟨by omega, hrow'⟩ (by dsimp only; omega) sb (fun w h => (h.sub (List.Sublist.append_left (List.Sublist.cons _ (List.Sublist.cons _ (List.Sublist.refl _))) _)).perm (List.perm_append_comm_assoc (_ :: ob) ob' _)))
            · change TL _ _ _ _ _ _ _ _ _ _ _
              refine r1 ?_; apply TL_nil; apply TQ_any
              refine TA_stepL [0, 2] (by kernel_rfl) rfl ⟨?_, ?_, trivial⟩
              · change TL _ _ _ _ _ _ _ _ _ _ _
                refine r1 ?_; apply TL_nil; apply TQ_any
                refine TA_stepL [2] (by kernel_rfl) rfl ⟨?_, trivial⟩
                change TL _ _ _ _ _ _ _ _ _ _ _
                refine TL_callV rfl rfl rfl (fun w h => c39 x w) ?_; apply TL_nil; apply TQ_any
                refine TA_stepL [3] (by kernel_rfl) rfl ⟨?_, trivial⟩
                change TL _ _ _ _ _ _ _ _ _ _ _
                (apply TL_buildSlice; exact rfl; exact rfl; exact rfl; exact rfl; exact rfl; intro b105 _); apply TL_nil; apply TQ_any
                refine TA_stepL [4] (by kernel_rfl) rfl ⟨?_, trivial⟩
                change TL _ _ _ _ _ _ _ _ _ _ _
                (refine TL_append (l := (A.take j).map minW) (l2 := [minW x]) (enc := encSp) (G := _) rfl (by rfl) rfl rfl hlen2.symm rfl rfl hrow2 (pm_cons (pm_cons (pm_cons (pmA pm_here)))) (fun w h => Sl.of_blk h mm (fun _ _ => rfl) ⟨[], by rfl⟩) (fun u _ => rfl) (by simp only [List.length_singleton]; omega) (by simp only [List.length_singleton, maxLen]; omega) (fun so' sc' ob' hrow' => ?_); rw [e4] at hrow' ⊢; rw [hlen3]); apply TL_nil; apply TQ_any
                refine TA_stepL [5] (by kernel_rfl) rfl ⟨?_, trivial⟩
                change TL _ _ _ _ _ _ _ _ _ _ _
                refine r1 ?_; apply TL_nil; apply TQ_any
                refine TA_done (by kernel_rfl) ?_
                ((repeat refine r1 ?_); exact TQ_round (j + 1, so', sc', ob') ⟨by omega, hrow'⟩ (by dsimp only; omega) sb (fun w h => (h.sub (List.Sublist.append_left (List.Sublist.cons _ (List.Sublist.cons _ (List.Sublist.refl _))) _)).perm (List.perm_append_comm_assoc (_ :: ob) ob' _)))
              · change TL _ _ _ _ _ _ _ _ _ _ _
                refine TL_callV rfl rfl rfl (fun w h => c39 x w) ?_; apply TL_nil; apply TQ_any
                refine TA_stepL [0, 3] (by kernel_rfl) rfl ⟨?_, ?_, trivial⟩
                · change TL _ _ _ _ _ _ _ _ _ _ _
                  refine r1 ?_; apply TL_nil; apply TQ_any
                  refine TA_stepL [3] (by kernel_rfl) rfl ⟨?_, trivial⟩
                  change TL _ _ _ _ _ _ _ _ _ _ _
                  (apply TL_buildSlice; exact rfl; exact rfl; exact rfl; exact rfl; exact rfl; intro b105 _); apply TL_nil; apply TQ_any
                  refine TA_stepL [4] (by kernel_rfl) rfl ⟨?_, trivial⟩
                  change TL _ _ _ _ _ _ _ _ _ _ _
                  (refine TL_append (l := (A.take j).map minW) (l2 := [minW x]) (enc := encSp) (G := _) rfl (by rfl) rfl rfl hlen2.symm rfl rfl hrow2 (pm_cons (pm_cons (pm_cons (pmA pm_here)))) (fun w h => Sl.of_blk h mm (fun _ _ => rfl) ⟨[], by rfl⟩) (fun u _ => rfl) (by simp only [List.length_singleton]; omega) (by simp only [List.length_singleton, maxLen]; omega) (fun so' sc' ob' hrow' => ?_); rw [e4] at hrow' ⊢; rw [hlen3]); apply TL_nil; apply TQ_any
                  refine TA_stepL [5] (by kernel_rfl) rfl ⟨?_, trivial⟩
                  change TL _ _ _ _ _ _ _ _ _ _ _
                  refine r1 ?_; apply TL_nil; apply TQ_any
                  refine TA_done (by kernel_rfl) ?_
                  ((repeat refine r1 ?_); exact TQ_round (j + 1, so', sc', ob') ⟨by omega, hrow'⟩ (by dsimp only; omega) sb (fun w h => (h.sub (List.Sublist.append_left (List.Sublist.cons _ (List.Sublist.cons _ (List.Sublist.refl _))) _)).perm (List.perm_append_comm_assoc (_ :: ob) ob' _)))
                · change TL _ _ _ _ _ _ _ _ _ _ _
                  (apply TL_buildSlice; exact rfl; exact rfl; exact rfl; exact rfl; exact rfl; intro b105 _); apply TL_nil; apply TQ_any
                  refine TA_stepL [0] (by kernel_rfl) rfl ⟨?_, trivial⟩
                  change TL _ _ _ _ _ _ _ _ _ _ _
                  refine r1 ?_; apply TL_nil; apply TQ_any
                  refine TA_stepL [4] (by kernel_rfl) rfl ⟨?_, trivial⟩
                  change TL _ _ _ _ _ _ _ _ _ _ _
                  (refine TL_append (l := (A.take j).map minW) (l2 := [minW x]) (enc := encSp) (G := _) rfl (by rfl) rfl rfl hlen2.symm rfl rfl hrow2 (pm_cons (pm_cons (pm_cons (pmA pm_here)))) (fun w h => Sl.of_blk h mm (fun _ _ => rfl) ⟨[], by rfl⟩) (fun u _ => rfl) (by simp only [List.length_singleton]; omega) (by simp only [List.length_singleton, maxLen]; omega) (fun so' sc' ob' hrow' => ?_); rw [e4] at hrow' ⊢; rw [hlen3]); apply TL_nil; apply TQ_any
                  refine TA_stepL [5] (by kernel_rfl) rfl ⟨?_, trivial⟩
                  change TL _ _ _ _ _ _ _ _ _ _ _
                  refine r1 ?_; apply TL_nil; apply TQ_any
                  refine TA_done (by kernel_rfl) ?_
                  ((repeat refine r1 ?_); exact TQ_round (j + 1, so', sc', ob') ⟨by omega, hrow'⟩ (by dsimp only; omega) sb (fun w h => (h.sub (List.Sublist.append_left (List.Sublist.cons _ (List.Sublist.cons _ (List.Sublist.refl _))) _)).perm (List.perm_append_comm_assoc (_ :: ob) ob' _)))
          · have hjl : j = l.length := by omega
            subst hjl
            have e : A.take l.length = A := by rw [← hA, List.take_length]
            rw [e] at hrow2 hlen2
            have hno0 : openE k day = 0 := ho
            repeat' (first | refine rn ?_ | (refine zb ?_; intro _ _) | (refine za ?_; intro _ _) | (refine zs ?_; intro _ _))
            refine TQ_leaveM (rs := [.cell 6 22, .cell 7 3, .cell 8 34]) (vs := [.slice so2 l.length sc2, .int .i64 0, .int .i64 0]) (.inl rfl) up Tryz.results10 ⟨RV.cell1 rfl mm (by rfl), RV.cell1 rfl mm (by rfl), RV.cell1 rfl mm (by rfl), trivial⟩ (fun w' hs => ⟨(A.map minW, so2, sc2, ob2, 0, 0), ⟨hrow2, by rw [hlen2]; omega, fun _ => rfl, fun _ => ⟨hlen2, fun i hi => ?_⟩, fun _ => ?_⟩, ?_, ?_⟩)
            · rw [← hTT, List.getElem?_map, hlast i hi]; rfl
            · rw [← hTT, ← hbk, show m - 1 = 0 by omega]; rfl
            · dsimp only; rw [hlen2]; rfl
            · exact hs.sub (List.Sublist.cons _ (List.sublist_append_of_sublist_right (List.sublist_append_left _ _)))
end Go.Proofs.YtkpkebpofpcmaaaGreatDoor
