/- Walks: the chapter's examples, as the outright laws use them; ready. -/
import Derived.Test.YtoolblbdmmiahaaDoorL20
import Derived.Test.YtoolblbdmmiahaaDoorL18
namespace Go.Proofs.YtoolblbdmmiahaaDoor
open Go Go.Eng Go.RowKit Go.Proofs
set_option maxHeartbeats 4000000
set_option maxRecDepth 10000
attribute [local irreducible] TL TC TQ

/-- Where a survey lies whose lists are three blocks. -/
def svP (S : Sv) (q : Nat × Nat × Nat) : Pl := ⟨some ⟨q.1, 0, none⟩, S.shots.length, some ⟨q.2.1, 0, none⟩, S.marks.length, some ⟨q.2.2, 0, none⟩, S.thr.length⟩
def svH (S : Sv) (q : Nat × Nat × Nat) : Hp := [(q.2.2, .cells (S.thr.flatMap encTh) 61), (q.2.1, .cells (S.marks.flatMap encMk) 59), (q.1, .cells (S.shots.flatMap encSh) 49)]
theorem svOf {S : Sv} {q : Nat × Nat × Nat} {B : Nat} {w0 w : World} {H : Hp} (h : SH B w0 w H) (hm : ∀ x ∈ svH S q, x ∈ H) : SvAt w S (svP S q) :=
  ⟨Sl.of_blk h (hm _ (List.Mem.tail _ (List.Mem.tail _ (List.Mem.head _)))) (fun _ _ => rfl) ⟨[], by rw [List.append_nil]⟩, Sl.of_blk h (hm _ (List.Mem.tail _ (List.Mem.head _))) (fun _ _ => rfl) ⟨[], by rw [List.append_nil]⟩, Sl.of_blk h (hm _ (List.Mem.head _)) (fun _ _ => rfl) ⟨[], by rw [List.append_nil]⟩⟩
theorem c39 (lo hi : Int) (w : World) : Calls Tryd.prog 10 #[.int .i64 lo, .int .i64 hi] w (RetV w (.agg (encSp (lo, hi)).toArray)) := by
  refine enter (args := [.int .i64 lo, .int .i64 hi]) Tryd.func10 rfl Tryd.ntmps10 rfl (SH.refl _) ?_
  repeat' (first | refine rn ?_ | (apply TL_box; exact rfl; exact rfl; exact rfl; intro _ _) | (apply TL_alloc; exact rfl; intro _ _) | (apply TL_buildSlice; exact rfl; exact rfl; exact rfl; exact rfl; exact rfl; intro _ _))
  exact TQ_ret1 Tryd.results10 (RV.celln rfl mm (by rfl)) (fun w' hs => ⟨rfl, hs.below⟩)
theorem c62 (w : World) : Calls Tryd.prog 6 #[] w (RetP w.heap.size w (fun q : Nat × Nat × Nat => .agg (encSv falaj0 (svP falaj0 q)).toArray) (fun q => svH falaj0 q) (fun _ => True)) := by
  refine enter (args := []) Tryd.func6 rfl Tryd.ntmps6 rfl (SH.refl _) ?_
  repeat' (first | refine rn ?_ | (apply TL_box; exact rfl; exact rfl; exact rfl; intro _ _) | (apply TL_alloc; exact rfl; intro _ _) | (apply TL_buildSlice; exact rfl; exact rfl; exact rfl; exact rfl; exact rfl; intro _ _))
  refine TL_callV rfl rfl rfl (fun w _ => c39 (-110) (-100) w) ?_
  repeat' (first | refine rn ?_ | (apply TL_box; exact rfl; exact rfl; exact rfl; intro _ _) | (apply TL_alloc; exact rfl; intro _ _) | (apply TL_buildSlice; exact rfl; exact rfl; exact rfl; exact rfl; exact rfl; intro _ _))
  refine TL_callV rfl rfl rfl (fun w _ => c39 (-55) (-45) w) ?_
  repeat' (first | refine rn ?_ | (apply TL_box; exact rfl; exact rfl; exact rfl; intro _ _) | (apply TL_alloc; exact rfl; intro _ _) | (apply TL_buildSlice; exact rfl; exact rfl; exact rfl; exact rfl; exact rfl; intro _ _))
  refine TL_callV rfl rfl rfl (fun w _ => c39 (-160) (-150) w) ?_
  repeat' (first | refine rn ?_ | (apply TL_box; exact rfl; exact rfl; exact rfl; intro _ _) | (apply TL_alloc; exact rfl; intro _ _) | (apply TL_buildSlice; exact rfl; exact rfl; exact rfl; exact rfl; exact rfl; intro _ _))
  refine TL_callV rfl rfl rfl (fun w _ => c39 20 30 w) ?_
  repeat' (first | refine rn ?_ | (apply TL_box; exact rfl; exact rfl; exact rfl; intro _ _) | (apply TL_alloc; exact rfl; intro _ _) | (apply TL_buildSlice; exact rfl; exact rfl; exact rfl; exact rfl; exact rfl; intro _ _))
  rename_i b9 _
  refine TL_callV rfl rfl rfl (fun w _ => c39 1000 1000 w) ?_
  repeat' (first | refine rn ?_ | (apply TL_box; exact rfl; exact rfl; exact rfl; intro _ _) | (apply TL_alloc; exact rfl; intro _ _) | (apply TL_buildSlice; exact rfl; exact rfl; exact rfl; exact rfl; exact rfl; intro _ _))
  rename_i b12 _
  refine TL_callV rfl rfl rfl (fun w _ => c39 50000 51000 w) ?_
  repeat' (first | refine rn ?_ | (apply TL_box; exact rfl; exact rfl; exact rfl; intro _ _) | (apply TL_alloc; exact rfl; intro _ _) | (apply TL_buildSlice; exact rfl; exact rfl; exact rfl; exact rfl; exact rfl; intro _ _))
  rename_i b15 _
  exact TQ_ret1 Tryd.results6 (RV.celln rfl mm (by rfl)) (fun w' hs => ⟨(b9, b12, b15), trivial, rfl, hs.sub (List.Sublist.cons_cons _ (List.Sublist.cons_cons _ (List.Sublist.cons_cons _ (List.nil_sublist _))))⟩)
theorem c63 (w : World) : Calls Tryd.prog 12 #[] w (RetP w.heap.size w (fun q : Nat × Nat × Nat => .agg (encSv crook0 (svP crook0 q)).toArray) (fun q => svH crook0 q) (fun _ => True)) := by
  refine enter (args := []) Tryd.func12 rfl Tryd.ntmps12 rfl (SH.refl _) ?_
  repeat' (first | refine rn ?_ | (apply TL_box; exact rfl; exact rfl; exact rfl; intro _ _) | (apply TL_alloc; exact rfl; intro _ _) | (apply TL_buildSlice; exact rfl; exact rfl; exact rfl; exact rfl; exact rfl; intro _ _))
  rename_i b0 _
  refine TL_callN rfl rfl rfl (fun w _ => c62 w) ?_
  rintro q -
  dsimp only [svH, List.cons_append, List.nil_append]
  change TL _ _ _ _ _ _ _ _ _ _ _
  repeat' (first | refine rn ?_ | (apply TL_box; exact rfl; exact rfl; exact rfl; intro _ _) | (apply TL_alloc; exact rfl; intro _ _) | (apply TL_buildSlice; exact rfl; exact rfl; exact rfl; exact rfl; exact rfl; intro _ _))
  rename_i b1 _
  apply TC_draw 5; kernel_rfl; exact Tryd.mixed
  · iterate 2 (refine' pv ?_; rotate_left)
    (refine' PG.val rfl rfl (by intro _X; refine TL_callV rfl rfl rfl (fun w _ => c39 (-180) (-170) w) ?_; exact qe) ?_; rotate_left)
    (refine' PG.val rfl rfl (by intro _X; refine TL_index 2 rfl rfl rfl (fun w h => Sl.of_blk (l := falaj0.shots) (enc := encSh) h mm (fun _ _ => rfl) ⟨[], by rw [List.append_nil]⟩) rfl (by decide) (by decide) ?_; exact qe) ?_; rotate_left)
    (refine' pv ?_; rotate_left)
    exact PG.nil
  change TL _ _ _ _ _ _ _ _ _ _ _
  repeat' (first | refine rn ?_ | (apply TL_box; exact rfl; exact rfl; exact rfl; intro _ _) | (apply TL_alloc; exact rfl; intro _ _) | (apply TL_buildSlice; exact rfl; exact rfl; exact rfl; exact rfl; exact rfl; intro _ _))
  exact TQ_ret1 Tryd.results12 (RV.celln rfl mm (by rfl)) (fun w' hs => ⟨q, trivial, rfl, hs.sub (List.Sublist.cons _ (List.Sublist.cons_cons _ (List.Sublist.cons_cons _ (List.Sublist.cons_cons _ (List.nil_sublist _)))))⟩)
/-- The examples are met. -/
theorem c35 (w : World) : Calls Tryd.prog 4 #[] w (RetV w (.bool true)) := by
  have al7' : clashI crook0 = ([0, 1, 2], 0) := by unfold clashI; rw [al7]; rfl
  have c16' := fun p w h => c16 falaj0 p (by decide) (by decide) (by decide) w h
  rw [al1] at c16'
  have c18' := fun p w h => c18 falaj0 p 1 2 (by decide) (by decide) (by decide) w h
  rw [al2] at c18'
  have c24' := fun p ao w h hb => c24 falaj0 p [0, 1, 2] ao 3 (by decide) (by decide) (by decide) (by decide) w h hb
  rw [al3] at c24'
  have c31' := fun p w h => c31 falaj0 p 0 (by decide) (by decide) (by decide) w h
  rw [al4] at c31'
  have c33' := fun p ao w h hb => c33 falaj0 p [0, 1, 2, 3] ao 4 (by decide) (by decide) (by decide) (by decide) w h hb
  rw [al5] at c33'
  have c28' := fun p w h => c28 crook0 p (by decide) (by decide) (by decide) w h
  rw [al6] at c28'
  have c26' := fun p w h => c26 crook0 p (by decide) (by decide) (by decide) w h
  rw [al7'] at c26'
  refine enter (args := []) Tryd.func4 rfl Tryd.ntmps4 rfl (SH.refl _) ?_
  repeat' (first | refine rn ?_ | (apply TL_box; exact rfl; exact rfl; exact rfl; intro _ _) | (apply TL_alloc; exact rfl; intro _ _) | (apply TL_buildSlice; exact rfl; exact rfl; exact rfl; exact rfl; exact rfl; intro _ _))
  refine TL_callN rfl rfl rfl (fun w _ => c62 w) ?_
  rintro q1 -
  change TL _ _ _ _ _ _ _ _ _ _ _
  refine TL_callN rfl rfl rfl (fun w h => c16' (svP falaj0 q1) w (svOf h (fun x hx => by repeat (first | exact List.mem_append_left _ hx | apply List.mem_append_right | apply List.mem_cons_of_mem)))) ?_
  rintro ⟨so1, sc1, ob1⟩ hrow1
  replace hrow1 : Row 24 2 encSp so1 sc1 ob1 [(1000, 1000), (890, 900), (840, 850), (810, 830)] := hrow1
  change TL _ _ _ _ _ _ _ _ _ _ _
  dsimp only
  repeat' (first | refine rn ?_ | (apply TL_box; exact rfl; exact rfl; exact rfl; intro _ _) | (apply TL_alloc; exact rfl; intro _ _) | (apply TL_buildSlice; exact rfl; exact rfl; exact rfl; exact rfl; exact rfl; intro _ _))
  refine TL_callN rfl rfl rfl (fun w _ => c62 w) ?_
  rintro q2 -
  change TL _ _ _ _ _ _ _ _ _ _ _
  refine TL_callV rfl rfl rfl (fun w h => c18' (svP falaj0 q2) w (svOf h (fun x hx => by repeat (first | exact List.mem_append_left _ hx | apply List.mem_append_right | apply List.mem_cons_of_mem)))) ?_
  repeat' (first | refine rn ?_ | (apply TL_box; exact rfl; exact rfl; exact rfl; intro _ _) | (apply TL_alloc; exact rfl; intro _ _) | (apply TL_buildSlice; exact rfl; exact rfl; exact rfl; exact rfl; exact rfl; intro _ _))
  refine TL_callN rfl rfl rfl (fun w _ => c62 w) ?_
  rintro q3 -
  change TL _ _ _ _ _ _ _ _ _ _ _
  repeat' (first | refine rn ?_ | (apply TL_box; exact rfl; exact rfl; exact rfl; intro _ _) | (apply TL_alloc; exact rfl; intro _ _) | (apply TL_buildSlice; exact rfl; exact rfl; exact rfl; exact rfl; exact rfl; intro _ _))
  rename_i b27 _
  refine TL_callV rfl rfl rfl (fun w h => c24' (svP falaj0 q3) _ w (svOf h (fun x hx => by repeat (first | exact List.mem_append_left _ hx | apply List.mem_append_right | apply List.mem_cons_of_mem))) (Sl.of_blk h mm (fun _ _ => rfl) ⟨[], rfl⟩)) ?_
  repeat' (first | refine rn ?_ | (apply TL_box; exact rfl; exact rfl; exact rfl; intro _ _) | (apply TL_alloc; exact rfl; intro _ _) | (apply TL_buildSlice; exact rfl; exact rfl; exact rfl; exact rfl; exact rfl; intro _ _))
  refine TL_callN rfl rfl rfl (fun w _ => c62 w) ?_
  rintro q4 -
  change TL _ _ _ _ _ _ _ _ _ _ _
  refine TL_callV rfl rfl rfl (fun w h => c31' (svP falaj0 q4) w (svOf h (fun x hx => by repeat (first | exact List.mem_append_left _ hx | apply List.mem_append_right | apply List.mem_cons_of_mem)))) ?_
  repeat' (first | refine rn ?_ | (apply TL_box; exact rfl; exact rfl; exact rfl; intro _ _) | (apply TL_alloc; exact rfl; intro _ _) | (apply TL_buildSlice; exact rfl; exact rfl; exact rfl; exact rfl; exact rfl; intro _ _))
  refine TL_callN rfl rfl rfl (fun w _ => c62 w) ?_
  rintro q5 -
  change TL _ _ _ _ _ _ _ _ _ _ _
  repeat' (first | refine rn ?_ | (apply TL_box; exact rfl; exact rfl; exact rfl; intro _ _) | (apply TL_alloc; exact rfl; intro _ _) | (apply TL_buildSlice; exact rfl; exact rfl; exact rfl; exact rfl; exact rfl; intro _ _))
  rename_i b38 _
  refine TL_callN rfl rfl rfl (fun w h => c33' (svP falaj0 q5) _ w (svOf h (fun x hx => by repeat (first | exact List.mem_append_left _ hx | apply List.mem_append_right | apply List.mem_cons_of_mem))) (Sl.of_blk h mm (fun _ _ => rfl) ⟨[], rfl⟩)) ?_
  rintro ⟨so5, sc5, ob5⟩ hrow5
  replace hrow5 : Row 5 1 encU8 so5 sc5 ob5 [2, 2, 2] := hrow5
  change TL _ _ _ _ _ _ _ _ _ _ _
  dsimp only
  repeat' (first | refine rn ?_ | (apply TL_box; exact rfl; exact rfl; exact rfl; intro _ _) | (apply TL_alloc; exact rfl; intro _ _) | (apply TL_buildSlice; exact rfl; exact rfl; exact rfl; exact rfl; exact rfl; intro _ _))
  refine TL_callN rfl rfl rfl (fun w _ => c63 w) ?_
  rintro q6 -
  change TL _ _ _ _ _ _ _ _ _ _ _
  refine TL_callV rfl rfl rfl (fun w h => c28' (svP crook0 q6) w (svOf h (fun x hx => by repeat (first | exact List.mem_append_left _ hx | apply List.mem_append_right | apply List.mem_cons_of_mem)))) ?_
  repeat' (first | refine rn ?_ | (apply TL_box; exact rfl; exact rfl; exact rfl; intro _ _) | (apply TL_alloc; exact rfl; intro _ _) | (apply TL_buildSlice; exact rfl; exact rfl; exact rfl; exact rfl; exact rfl; intro _ _))
  refine TL_callN rfl rfl rfl (fun w _ => c63 w) ?_
  rintro q7 -
  change TL _ _ _ _ _ _ _ _ _ _ _
  refine TL_callN rfl rfl rfl (fun w h => c26' (svP crook0 q7) w (svOf h (fun x hx => by repeat (first | exact List.mem_append_left _ hx | apply List.mem_append_right | apply List.mem_cons_of_mem)))) ?_
  rintro ⟨so7, sc7, ob7⟩ hrow7
  replace hrow7 : Row 3 1 encI so7 sc7 ob7 [0, 1, 2] := hrow7
  change TL _ _ _ _ _ _ _ _ _ _ _
  dsimp only
  repeat' (first | refine rn ?_ | (apply TL_box; exact rfl; exact rfl; exact rfl; intro _ _) | (apply TL_alloc; exact rfl; intro _ _) | (apply TL_buildSlice; exact rfl; exact rfl; exact rfl; exact rfl; exact rfl; intro _ _))
  apply TC_draw 64; kernel_rfl; exact Tryd.mixed
  · (refine' pv ?_; rotate_left)
    (refine' PG.val rfl rfl (by intro _X; refine TL_eql_same rfl rfl rfl ?_; exact qe) ?_; rotate_left)
    (refine' pv ?_; rotate_left)
    (refine' pg ?_; rotate_left)
    (refine' PG.val rfl rfl (by intro _X; (refine TL_guard_yes rfl rfl rfl ?_); refine TL_callV rfl rfl rfl (fun w _ => c39 (1000) 1000 w) ?_; exact qe) ?_; rotate_left)
    (refine' PG.val rfl rfl (by intro _X; (refine TL_guard_yes rfl rfl rfl ?_); refine TL_callV rfl rfl rfl (fun w _ => c39 (890) 900 w) ?_; exact qe) ?_; rotate_left)
    (refine' PG.val rfl rfl (by intro _X; (refine TL_guard_yes rfl rfl rfl ?_); refine TL_callV rfl rfl rfl (fun w _ => c39 (840) 850 w) ?_; exact qe) ?_; rotate_left)
    (refine' PG.val rfl rfl (by intro _X; (refine TL_guard_yes rfl rfl rfl ?_); refine TL_callV rfl rfl rfl (fun w _ => c39 (810) 830 w) ?_; exact qe) ?_; rotate_left)
    (refine' PG.rel ((fun v h => ∃ b, v = .slice (some ⟨b, 0, none⟩) 4 4 ∧ h = [(b, .cells (encSp (1000, 1000) ++ (encSp (890, 900) ++ (encSp (840, 850) ++ encSp (810, 830)))) 24)])) rfl rfl (by intro _X; refine TL_guard_yes rfl rfl rfl ?_; apply TL_buildSlice; exact rfl; exact rfl; exact rfl; exact rfl; exact rfl; intro b _; exact TL_nil (TQ_QR (h := [(b, _)]) rfl ⟨b, rfl, rfl⟩ (fun _ h => h))) ?_; rotate_left)
    (refine' PG.val rfl rfl (by rintro _ _ ⟨b8, rfl, rfl⟩ _X; refine TL_guard_yes rfl rfl rfl ?_; refine TL_callV rfl rfl rfl (fun w h => c22 [(1000, 1000), (890, 900), (840, 850), (810, 830)] so1 (some ⟨b8, 0, none⟩) sc1 4 (by decide) w (hrow1.sl h (fun x hx => by repeat (first | exact List.mem_append_left _ hx | apply List.mem_append_right | apply List.mem_cons_of_mem))) (Sl.of_blk h mm (fun _ _ => rfl) ⟨[], rfl⟩)) ?_; exact qe) ?_; rotate_left)
    (refine' pv ?_; rotate_left)
    (refine' pv ?_; rotate_left)
    (refine' pg ?_; rotate_left)
    (refine' PG.val rfl rfl (by intro _X; (refine TL_guard_yes rfl rfl rfl ?_); refine TL_eql_same rfl rfl rfl ?_; exact qe) ?_; rotate_left)
    (refine' pv ?_; rotate_left)
    (refine' pv ?_; rotate_left)
    (refine' pg ?_; rotate_left)
    (refine' PG.val rfl rfl (by intro _X; (refine TL_guard_yes rfl rfl rfl ?_); refine TL_callV rfl rfl rfl (fun w _ => c39 (45) 55 w) ?_; exact qe) ?_; rotate_left)
    (refine' PG.val rfl rfl (by intro _X; (refine TL_guard_yes rfl rfl rfl ?_); refine TL_eqlS_same rfl rfl rfl rfl rfl rfl rfl ?_; exact qe) ?_; rotate_left)
    (refine' pv ?_; rotate_left)
    (refine' pv ?_; rotate_left)
    (refine' pg ?_; rotate_left)
    (refine' PG.val rfl rfl (by intro _X; (refine TL_guard_yes rfl rfl rfl ?_); refine TL_eql_same rfl rfl rfl ?_; exact qe) ?_; rotate_left)
    (refine' pv ?_; rotate_left)
    (refine' pv ?_; rotate_left)
    (refine' pg ?_; rotate_left)
    (refine' PG.val rfl rfl (by intro _X; (refine TL_guard_yes rfl rfl rfl ?_); refine TL_callV rfl rfl rfl (fun w _ => c39 (-15) 15 w) ?_; exact qe) ?_; rotate_left)
    (refine' PG.val rfl rfl (by intro _X; (refine TL_guard_yes rfl rfl rfl ?_); refine TL_eqlS_same rfl rfl rfl rfl rfl rfl rfl ?_; exact qe) ?_; rotate_left)
    (refine' pv ?_; rotate_left)
    (refine' pv ?_; rotate_left)
    (refine' pg ?_; rotate_left)
    (refine' PG.val rfl rfl (by intro _X; (refine TL_guard_yes rfl rfl rfl ?_); refine TL_eql_same rfl rfl rfl ?_; exact qe) ?_; rotate_left)
    (refine' pv ?_; rotate_left)
    (refine' pv ?_; rotate_left)
    (refine' pg ?_; rotate_left)
    (refine' PG.val rfl rfl (by intro _X; (refine TL_guard_yes rfl rfl rfl ?_); refine TL_callV rfl rfl rfl (fun w _ => c39 (2) 4 w) ?_; exact qe) ?_; rotate_left)
    (refine' PG.val rfl rfl (by intro _X; (refine TL_guard_yes rfl rfl rfl ?_); refine TL_eqlS_same rfl rfl rfl rfl rfl rfl rfl ?_; exact qe) ?_; rotate_left)
    (refine' pv ?_; rotate_left)
    (refine' pv ?_; rotate_left)
    (refine' pg ?_; rotate_left)
    (refine' PG.val rfl rfl (by intro _X; (refine TL_guard_yes rfl rfl rfl ?_); refine TL_eql_same rfl rfl rfl ?_; exact qe) ?_; rotate_left)
    (refine' pv ?_; rotate_left)
    (refine' pv ?_; rotate_left)
    (refine' pg ?_; rotate_left)
    (refine' PG.val rfl rfl (by intro _X; (refine TL_guard_yes rfl rfl rfl ?_); refine TL_convStr (l := [2, 2, 2]) rfl Tryd.underlying9 rfl rfl (fun w h => hrow5.sl h (fun x hx => by repeat (first | exact List.mem_append_left _ hx | apply List.mem_append_right | apply List.mem_cons_of_mem))) ?_; exact qe) ?_; rotate_left)
    (refine' PG.val rfl rfl (by intro _X; (refine TL_guard_yes rfl rfl rfl ?_); refine TL_eql_str rfl rfl rfl ?_; exact qe) ?_; rotate_left)
    (refine' pv ?_; rotate_left)
    (refine' pv ?_; rotate_left)
    (refine' pg ?_; rotate_left)
    (refine' PG.val rfl rfl (by intro _X; (refine TL_guard_yes rfl rfl rfl ?_); refine TL_eql_same rfl rfl rfl ?_; exact qe) ?_; rotate_left)
    (refine' pv ?_; rotate_left)
    (refine' pv ?_; rotate_left)
    (refine' pg ?_; rotate_left)
    (refine' PG.val rfl rfl (by intro _X; (refine TL_guard_yes rfl rfl rfl ?_); refine TL_eql_same rfl rfl rfl ?_; exact qe) ?_; rotate_left)
    (refine' pv ?_; rotate_left)
    (refine' pv ?_; rotate_left)
    (refine' pg ?_; rotate_left)
    (refine' PG.val rfl rfl (by intro _X; (refine TL_guard_yes rfl rfl rfl ?_); refine TL_eql_same rfl rfl rfl ?_; exact qe) ?_; rotate_left)
    (refine' pv ?_; rotate_left)
    (refine' pv ?_; rotate_left)
    (refine' pg ?_; rotate_left)
    (refine' PG.rel ((fun v h => ∃ b, v = .slice (some ⟨b, 0, none⟩) 3 3 ∧ h = [(b, .cells ([.int .i64 0, .int .i64 1, .int .i64 2]) 3)])) rfl rfl (by intro _X; refine TL_guard_yes rfl rfl rfl ?_; apply TL_buildSlice; exact rfl; exact rfl; exact rfl; exact rfl; exact rfl; intro b _; exact TL_nil (TQ_QR (h := [(b, _)]) rfl ⟨b, rfl, rfl⟩ (fun _ h => h))) ?_; rotate_left)
    (refine' PG.val rfl rfl (by rintro _ _ ⟨b61, rfl, rfl⟩ _X; refine TL_guard_yes rfl rfl rfl ?_; refine TL_callV rfl rfl rfl (fun w h => c30 [0, 1, 2] so7 (some ⟨b61, 0, none⟩) sc7 3 (by decide) w (hrow7.sl h (fun x hx => by repeat (first | exact List.mem_append_left _ hx | apply List.mem_append_right | apply List.mem_cons_of_mem))) (Sl.of_blk h mm (fun _ _ => rfl) ⟨[], rfl⟩)) ?_; exact qe) ?_; rotate_left)
    (refine' pv ?_; rotate_left)
    exact PG.nil
  rintro _ _ ⟨b61, rfl, rfl⟩ _ _ ⟨b8, rfl, rfl⟩
  change TL _ _ _ _ _ _ _ _ _ _ _
  repeat' (first | refine rn ?_ | (apply TL_box; exact rfl; exact rfl; exact rfl; intro _ _) | (apply TL_alloc; exact rfl; intro _ _) | (apply TL_buildSlice; exact rfl; exact rfl; exact rfl; exact rfl; exact rfl; intro _ _))
  exact TQ_ret1 Tryd.results4 (RV.tmp rfl) (fun w' hs => ⟨rfl, hs.below⟩)
end Go.Proofs.YtoolblbdmmiahaaDoor
