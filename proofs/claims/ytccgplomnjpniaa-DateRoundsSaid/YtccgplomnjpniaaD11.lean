/- Walks: date.run's deferred function. -/
import Derived.Test.YtccgplomnjpniaaD10
import Derived.Test.YtccgplomnjpniaaEng9
namespace Go.Proofs.Ytccgplomnjpniaa
open Go Go.Eng Go.RowKit Go.Proofs
set_option maxHeartbeats 1000000
set_option maxRecDepth 10000
attribute [local irreducible] TL TC TQ TA

/-- date.run's deferred function, after a run that ended well: it leaves all as it is. -/
theorem c72_ret {B : Nat} {w0 : World} {H : Hp} (p4 p5 p6 : Value) (w : World) (hs : SH B w0 w H) :
    CallsDIn (FW none) 0 Try.prog 72 #[p4, p5, p6] .returning w (fun e u' w' => (∃ v, e = .returned v) ∧ settle u' = .returning ∧ SH B w0 w' H) := by
  refine enterRec (args := [p4, p5, p6]) (v := .nilIface) (u' := .returning) Try.func72 rfl Try.ntmps72 rfl rfl rfl (.inl ⟨rfl, rfl, rfl⟩) hs ?_
  repeat' (first | (apply TL_move; exact rfl; exact rfl) | (apply TL_assign; exact rfl; exact rfl) | (apply TL_guard_yes; exact rfl; exact rfl; exact rfl) | (apply TL_guard_no; exact rfl; exact rfl; exact rfl; exact rfl) | (apply TL_guard_no_none; exact rfl; exact rfl; exact rfl) | (apply TL_fieldAddr; exact rfl; exact rfl) | (apply TL_load1; exact rfl; exact rfl; (repeat (first | exact List.Mem.head _ | apply List.Mem.tail | apply List.mem_append_right)); exact rfl) | (apply TL_loadn; exact rfl; exact rfl; (repeat (first | exact List.Mem.head _ | apply List.Mem.tail | apply List.mem_append_right)); exact rfl) | (apply TL_extract; exact rfl; exact rfl; exact rfl) | (apply TL_pick; exact rfl; exact rfl; exact rfl) | (apply TL_lss; exact rfl; exact rfl; exact rfl) | (apply TL_leq; exact rfl; exact rfl; exact rfl) | (apply TL_gtr; exact rfl; exact rfl; exact rfl) | (apply TL_geq; exact rfl; exact rfl; exact rfl) | (apply TL_eql; exact rfl; exact rfl; exact rfl) | (apply TL_neq; exact rfl; exact rfl; exact rfl) | (apply TL_eqlS; exact rfl; exact rfl; exact rfl; exact rfl; exact rfl; exact rfl; exact rfl; exact rfl; exact rfl) | (apply TL_neqS; exact rfl; exact rfl; exact rfl; exact rfl; exact rfl; exact rfl; exact rfl; exact rfl; exact rfl) | (apply TL_not_dec; exact rfl; exact rfl) | (apply TL_not; exact rfl; exact rfl) | (apply TL_add; exact rfl; exact rfl; exact rfl; (first | omega | (dsimp only; omega))) | (apply TL_sub; exact rfl; exact rfl; exact rfl; (first | omega | (dsimp only; omega))) | (apply TL_mul; exact rfl; exact rfl; exact rfl; (first | omega | (dsimp only; omega))) | (apply TL_neg; exact rfl; exact rfl; (first | omega | (dsimp only; omega))) | (apply TL_quo_nn; exact rfl; exact rfl; exact rfl; (first | omega | (dsimp only; omega)); (first | omega | (dsimp only; omega))) | (apply TL_rem_nn; exact rfl; exact rfl; exact rfl; (first | omega | (dsimp only; omega)); (first | omega | (dsimp only; omega))) | (apply TL_min; exact rfl; exact rfl; exact rfl) | (apply TL_max; exact rfl; exact rfl; exact rfl) | (apply TL_len; exact rfl; exact rfl) | (apply TL_convert; exact rfl; exact rfl) | (apply TL_box; exact rfl; exact rfl; exact rfl; intro _ _) | (apply TL_alloc; exact rfl; intro _ _) | (apply TL_build; exact rfl; exact rfl; exact rfl) | (apply TL_buildA; exact rfl; exact rfl; exact rfl) | (apply TL_buildSlice; exact rfl; exact rfl; exact rfl; exact rfl; exact rfl; intro _ _) | (apply TL_store; exact rfl; exact rfl; exact rfl; exact rfl; exact rfl; (repeat (first | exact Upd.head | apply Upd.tail | apply Upd.right)); exact rfl) | (apply TL_makeFunc; exact rfl; exact rfl; exact rfl) | (apply TC_seq) | (apply TC_region) | (apply TL_nil) | (apply TQ_then) | (apply TC_skip) | (apply TC_exit) | (apply TC_block) | (apply TQ_then_exit) | (apply TQ_block_exit; exact rfl) | (apply TQ_block_exit_ne; exact rfl) | (apply TQ_block) | (apply TQ_then_ret) | (apply TQ_block_ret) | (apply TC_ret) | (apply TC_cond_t; exact rfl; exact rfl) | (apply TC_cond_f; exact rfl; exact rfl))
  refine TL_neq_nilnil rfl Try.underlying20 rfl ?_
  repeat' (first | (apply TL_move; exact rfl; exact rfl) | (apply TL_assign; exact rfl; exact rfl) | (apply TL_guard_yes; exact rfl; exact rfl; exact rfl) | (apply TL_guard_no; exact rfl; exact rfl; exact rfl; exact rfl) | (apply TL_guard_no_none; exact rfl; exact rfl; exact rfl) | (apply TL_fieldAddr; exact rfl; exact rfl) | (apply TL_load1; exact rfl; exact rfl; (repeat (first | exact List.Mem.head _ | apply List.Mem.tail | apply List.mem_append_right)); exact rfl) | (apply TL_loadn; exact rfl; exact rfl; (repeat (first | exact List.Mem.head _ | apply List.Mem.tail | apply List.mem_append_right)); exact rfl) | (apply TL_extract; exact rfl; exact rfl; exact rfl) | (apply TL_pick; exact rfl; exact rfl; exact rfl) | (apply TL_lss; exact rfl; exact rfl; exact rfl) | (apply TL_leq; exact rfl; exact rfl; exact rfl) | (apply TL_gtr; exact rfl; exact rfl; exact rfl) | (apply TL_geq; exact rfl; exact rfl; exact rfl) | (apply TL_eql; exact rfl; exact rfl; exact rfl) | (apply TL_neq; exact rfl; exact rfl; exact rfl) | (apply TL_eqlS; exact rfl; exact rfl; exact rfl; exact rfl; exact rfl; exact rfl; exact rfl; exact rfl; exact rfl) | (apply TL_neqS; exact rfl; exact rfl; exact rfl; exact rfl; exact rfl; exact rfl; exact rfl; exact rfl; exact rfl) | (apply TL_not_dec; exact rfl; exact rfl) | (apply TL_not; exact rfl; exact rfl) | (apply TL_add; exact rfl; exact rfl; exact rfl; (first | omega | (dsimp only; omega))) | (apply TL_sub; exact rfl; exact rfl; exact rfl; (first | omega | (dsimp only; omega))) | (apply TL_mul; exact rfl; exact rfl; exact rfl; (first | omega | (dsimp only; omega))) | (apply TL_neg; exact rfl; exact rfl; (first | omega | (dsimp only; omega))) | (apply TL_quo_nn; exact rfl; exact rfl; exact rfl; (first | omega | (dsimp only; omega)); (first | omega | (dsimp only; omega))) | (apply TL_rem_nn; exact rfl; exact rfl; exact rfl; (first | omega | (dsimp only; omega)); (first | omega | (dsimp only; omega))) | (apply TL_min; exact rfl; exact rfl; exact rfl) | (apply TL_max; exact rfl; exact rfl; exact rfl) | (apply TL_len; exact rfl; exact rfl) | (apply TL_convert; exact rfl; exact rfl) | (apply TL_box; exact rfl; exact rfl; exact rfl; intro _ _) | (apply TL_alloc; exact rfl; intro _ _) | (apply TL_build; exact rfl; exact rfl; exact rfl) | (apply TL_buildA; exact rfl; exact rfl; exact rfl) | (apply TL_buildSlice; exact rfl; exact rfl; exact rfl; exact rfl; exact rfl; intro _ _) | (apply TL_store; exact rfl; exact rfl; exact rfl; exact rfl; exact rfl; (repeat (first | exact Upd.head | apply Upd.tail | apply Upd.right)); exact rfl) | (apply TL_makeFunc; exact rfl; exact rfl; exact rfl) | (apply TC_seq) | (apply TC_region) | (apply TL_nil) | (apply TQ_then) | (apply TC_skip) | (apply TC_exit) | (apply TC_block) | (apply TQ_then_exit) | (apply TQ_block_exit; exact rfl) | (apply TQ_block_exit_ne; exact rfl) | (apply TQ_block) | (apply TQ_then_ret) | (apply TQ_block_ret) | (apply TC_ret) | (apply TC_cond_t; exact rfl; exact rfl) | (apply TC_cond_f; exact rfl; exact rfl))
  exact TQ_end0 Try.results72 (fun w' hs => ⟨⟨_, rfl⟩, rfl, hs⟩)
/-- .. after a stop. -/
theorem c72_stop {B : Nat} {w0 : World} {G : Hp} (b4 b5 b6 : Nat) (i e : Int) (x4 : Value) (w : World) (hs : SH B w0 w ((b4, .cells [x4] 27) :: (b5, .cells [.int .i64 0] 3) :: (b6, .cells [.int .i64 0] 28) :: G)) :
    CallsDIn (FW none) 0 Try.prog 72 #[.pointer (some ⟨b4, 0, none⟩), .pointer (some ⟨b5, 0, none⟩), .pointer (some ⟨b6, 0, none⟩)] (.panicking [{ v := stopV i e, recovered := false }]) w
      (fun e' u' w' => (∃ v, e' = .returned v) ∧ settle u' = .returning ∧ SH B w0 w' ((b4, .cells [.slice none 0 0] 27) :: (b5, .cells [.int .i64 i] 3) :: (b6, .cells [.int .i64 e] 28) :: G)) := by
  refine enterRec (args := [.pointer (some ⟨b4, 0, none⟩), .pointer (some ⟨b5, 0, none⟩), .pointer (some ⟨b6, 0, none⟩)]) (v := stopV i e) (u' := .panicking [{ v := stopV i e, recovered := true }]) Try.func72 rfl Try.ntmps72 rfl rfl rfl (.inr ⟨rfl, rfl⟩) hs ?_
  repeat' (first | (apply TL_move; exact rfl; exact rfl) | (apply TL_assign; exact rfl; exact rfl) | (apply TL_guard_yes; exact rfl; exact rfl; exact rfl) | (apply TL_guard_no; exact rfl; exact rfl; exact rfl; exact rfl) | (apply TL_guard_no_none; exact rfl; exact rfl; exact rfl) | (apply TL_fieldAddr; exact rfl; exact rfl) | (apply TL_load1; exact rfl; exact rfl; (repeat (first | exact List.Mem.head _ | apply List.Mem.tail | apply List.mem_append_right)); exact rfl) | (apply TL_loadn; exact rfl; exact rfl; (repeat (first | exact List.Mem.head _ | apply List.Mem.tail | apply List.mem_append_right)); exact rfl) | (apply TL_extract; exact rfl; exact rfl; exact rfl) | (apply TL_pick; exact rfl; exact rfl; exact rfl) | (apply TL_lss; exact rfl; exact rfl; exact rfl) | (apply TL_leq; exact rfl; exact rfl; exact rfl) | (apply TL_gtr; exact rfl; exact rfl; exact rfl) | (apply TL_geq; exact rfl; exact rfl; exact rfl) | (apply TL_eql; exact rfl; exact rfl; exact rfl) | (apply TL_neq; exact rfl; exact rfl; exact rfl) | (apply TL_eqlS; exact rfl; exact rfl; exact rfl; exact rfl; exact rfl; exact rfl; exact rfl; exact rfl; exact rfl) | (apply TL_neqS; exact rfl; exact rfl; exact rfl; exact rfl; exact rfl; exact rfl; exact rfl; exact rfl; exact rfl) | (apply TL_not_dec; exact rfl; exact rfl) | (apply TL_not; exact rfl; exact rfl) | (apply TL_add; exact rfl; exact rfl; exact rfl; (first | omega | (dsimp only; omega))) | (apply TL_sub; exact rfl; exact rfl; exact rfl; (first | omega | (dsimp only; omega))) | (apply TL_mul; exact rfl; exact rfl; exact rfl; (first | omega | (dsimp only; omega))) | (apply TL_neg; exact rfl; exact rfl; (first | omega | (dsimp only; omega))) | (apply TL_quo_nn; exact rfl; exact rfl; exact rfl; (first | omega | (dsimp only; omega)); (first | omega | (dsimp only; omega))) | (apply TL_rem_nn; exact rfl; exact rfl; exact rfl; (first | omega | (dsimp only; omega)); (first | omega | (dsimp only; omega))) | (apply TL_min; exact rfl; exact rfl; exact rfl) | (apply TL_max; exact rfl; exact rfl; exact rfl) | (apply TL_len; exact rfl; exact rfl) | (apply TL_convert; exact rfl; exact rfl) | (apply TL_box; exact rfl; exact rfl; exact rfl; intro _ _) | (apply TL_alloc; exact rfl; intro _ _) | (apply TL_build; exact rfl; exact rfl; exact rfl) | (apply TL_buildA; exact rfl; exact rfl; exact rfl) | (apply TL_buildSlice; exact rfl; exact rfl; exact rfl; exact rfl; exact rfl; intro _ _) | (apply TL_store; exact rfl; exact rfl; exact rfl; exact rfl; exact rfl; (repeat (first | exact Upd.head | apply Upd.tail | apply Upd.right)); exact rfl) | (apply TL_makeFunc; exact rfl; exact rfl; exact rfl) | (apply TC_seq) | (apply TC_region) | (apply TL_nil) | (apply TQ_then) | (apply TC_skip) | (apply TC_exit) | (apply TC_block) | (apply TQ_then_exit) | (apply TQ_block_exit; exact rfl) | (apply TQ_block_exit_ne; exact rfl) | (apply TQ_block) | (apply TQ_then_ret) | (apply TQ_block_ret) | (apply TC_ret) | (apply TC_cond_t; exact rfl; exact rfl) | (apply TC_cond_f; exact rfl; exact rfl))
  refine TL_neq_held rfl Try.underlying20 rfl ?_
  repeat' (first | (apply TL_move; exact rfl; exact rfl) | (apply TL_assign; exact rfl; exact rfl) | (apply TL_guard_yes; exact rfl; exact rfl; exact rfl) | (apply TL_guard_no; exact rfl; exact rfl; exact rfl; exact rfl) | (apply TL_guard_no_none; exact rfl; exact rfl; exact rfl) | (apply TL_fieldAddr; exact rfl; exact rfl) | (apply TL_load1; exact rfl; exact rfl; (repeat (first | exact List.Mem.head _ | apply List.Mem.tail | apply List.mem_append_right)); exact rfl) | (apply TL_loadn; exact rfl; exact rfl; (repeat (first | exact List.Mem.head _ | apply List.Mem.tail | apply List.mem_append_right)); exact rfl) | (apply TL_extract; exact rfl; exact rfl; exact rfl) | (apply TL_pick; exact rfl; exact rfl; exact rfl) | (apply TL_lss; exact rfl; exact rfl; exact rfl) | (apply TL_leq; exact rfl; exact rfl; exact rfl) | (apply TL_gtr; exact rfl; exact rfl; exact rfl) | (apply TL_geq; exact rfl; exact rfl; exact rfl) | (apply TL_eql; exact rfl; exact rfl; exact rfl) | (apply TL_neq; exact rfl; exact rfl; exact rfl) | (apply TL_eqlS; exact rfl; exact rfl; exact rfl; exact rfl; exact rfl; exact rfl; exact rfl; exact rfl; exact rfl) | (apply TL_neqS; exact rfl; exact rfl; exact rfl; exact rfl; exact rfl; exact rfl; exact rfl; exact rfl; exact rfl) | (apply TL_not_dec; exact rfl; exact rfl) | (apply TL_not; exact rfl; exact rfl) | (apply TL_add; exact rfl; exact rfl; exact rfl; (first | omega | (dsimp only; omega))) | (apply TL_sub; exact rfl; exact rfl; exact rfl; (first | omega | (dsimp only; omega))) | (apply TL_mul; exact rfl; exact rfl; exact rfl; (first | omega | (dsimp only; omega))) | (apply TL_neg; exact rfl; exact rfl; (first | omega | (dsimp only; omega))) | (apply TL_quo_nn; exact rfl; exact rfl; exact rfl; (first | omega | (dsimp only; omega)); (first | omega | (dsimp only; omega))) | (apply TL_rem_nn; exact rfl; exact rfl; exact rfl; (first | omega | (dsimp only; omega)); (first | omega | (dsimp only; omega))) | (apply TL_min; exact rfl; exact rfl; exact rfl) | (apply TL_max; exact rfl; exact rfl; exact rfl) | (apply TL_len; exact rfl; exact rfl) | (apply TL_convert; exact rfl; exact rfl) | (apply TL_box; exact rfl; exact rfl; exact rfl; intro _ _) | (apply TL_alloc; exact rfl; intro _ _) | (apply TL_build; exact rfl; exact rfl; exact rfl) | (apply TL_buildA; exact rfl; exact rfl; exact rfl) | (apply TL_buildSlice; exact rfl; exact rfl; exact rfl; exact rfl; exact rfl; intro _ _) | (apply TL_store; exact rfl; exact rfl; exact rfl; exact rfl; exact rfl; (repeat (first | exact Upd.head | apply Upd.tail | apply Upd.right)); exact rfl) | (apply TL_makeFunc; exact rfl; exact rfl; exact rfl) | (apply TC_seq) | (apply TC_region) | (apply TL_nil) | (apply TQ_then) | (apply TC_skip) | (apply TC_exit) | (apply TC_block) | (apply TQ_then_exit) | (apply TQ_block_exit; exact rfl) | (apply TQ_block_exit_ne; exact rfl) | (apply TQ_block) | (apply TQ_then_ret) | (apply TQ_block_ret) | (apply TC_ret) | (apply TC_cond_t; exact rfl; exact rfl) | (apply TC_cond_f; exact rfl; exact rfl))
  refine TL_typeAssert_ok rfl Try.underlying121 rfl ?_
  repeat' (first | (apply TL_move; exact rfl; exact rfl) | (apply TL_assign; exact rfl; exact rfl) | (apply TL_guard_yes; exact rfl; exact rfl; exact rfl) | (apply TL_guard_no; exact rfl; exact rfl; exact rfl; exact rfl) | (apply TL_guard_no_none; exact rfl; exact rfl; exact rfl) | (apply TL_fieldAddr; exact rfl; exact rfl) | (apply TL_load1; exact rfl; exact rfl; (repeat (first | exact List.Mem.head _ | apply List.Mem.tail | apply List.mem_append_right)); exact rfl) | (apply TL_loadn; exact rfl; exact rfl; (repeat (first | exact List.Mem.head _ | apply List.Mem.tail | apply List.mem_append_right)); exact rfl) | (apply TL_extract; exact rfl; exact rfl; exact rfl) | (apply TL_pick; exact rfl; exact rfl; exact rfl) | (apply TL_lss; exact rfl; exact rfl; exact rfl) | (apply TL_leq; exact rfl; exact rfl; exact rfl) | (apply TL_gtr; exact rfl; exact rfl; exact rfl) | (apply TL_geq; exact rfl; exact rfl; exact rfl) | (apply TL_eql; exact rfl; exact rfl; exact rfl) | (apply TL_neq; exact rfl; exact rfl; exact rfl) | (apply TL_eqlS; exact rfl; exact rfl; exact rfl; exact rfl; exact rfl; exact rfl; exact rfl; exact rfl; exact rfl) | (apply TL_neqS; exact rfl; exact rfl; exact rfl; exact rfl; exact rfl; exact rfl; exact rfl; exact rfl; exact rfl) | (apply TL_not_dec; exact rfl; exact rfl) | (apply TL_not; exact rfl; exact rfl) | (apply TL_add; exact rfl; exact rfl; exact rfl; (first | omega | (dsimp only; omega))) | (apply TL_sub; exact rfl; exact rfl; exact rfl; (first | omega | (dsimp only; omega))) | (apply TL_mul; exact rfl; exact rfl; exact rfl; (first | omega | (dsimp only; omega))) | (apply TL_neg; exact rfl; exact rfl; (first | omega | (dsimp only; omega))) | (apply TL_quo_nn; exact rfl; exact rfl; exact rfl; (first | omega | (dsimp only; omega)); (first | omega | (dsimp only; omega))) | (apply TL_rem_nn; exact rfl; exact rfl; exact rfl; (first | omega | (dsimp only; omega)); (first | omega | (dsimp only; omega))) | (apply TL_min; exact rfl; exact rfl; exact rfl) | (apply TL_max; exact rfl; exact rfl; exact rfl) | (apply TL_len; exact rfl; exact rfl) | (apply TL_convert; exact rfl; exact rfl) | (apply TL_box; exact rfl; exact rfl; exact rfl; intro _ _) | (apply TL_alloc; exact rfl; intro _ _) | (apply TL_build; exact rfl; exact rfl; exact rfl) | (apply TL_buildA; exact rfl; exact rfl; exact rfl) | (apply TL_buildSlice; exact rfl; exact rfl; exact rfl; exact rfl; exact rfl; intro _ _) | (apply TL_store; exact rfl; exact rfl; exact rfl; exact rfl; exact rfl; (repeat (first | exact Upd.head | apply Upd.tail | apply Upd.right)); exact rfl) | (apply TL_makeFunc; exact rfl; exact rfl; exact rfl) | (apply TC_seq) | (apply TC_region) | (apply TL_nil) | (apply TQ_then) | (apply TC_skip) | (apply TC_exit) | (apply TC_block) | (apply TQ_then_exit) | (apply TQ_block_exit; exact rfl) | (apply TQ_block_exit_ne; exact rfl) | (apply TQ_block) | (apply TQ_then_ret) | (apply TQ_block_ret) | (apply TC_ret) | (apply TC_cond_t; exact rfl; exact rfl) | (apply TC_cond_f; exact rfl; exact rfl))
  rename_i b _
  refine TC_any Try.mixed ?_
  refine TA_stepL [0, 2, 4] (by kernel_rfl) rfl ⟨?_, ?_, ?_, trivial⟩
  · change TL _ _ _ _ _ _ _ _ _ _ _
    refine TL_fieldAddr rfl rfl ?_; apply TL_nil; apply TQ_any
    refine TA_stepL [1, 2, 4] (by kernel_rfl) rfl ⟨?_, ?_, ?_, trivial⟩
    · change TL _ _ _ _ _ _ _ _ _ _ _
      refine TL_load1 rfl rfl (by repeat (first | exact List.Mem.head _ | apply List.Mem.tail | apply List.mem_append_right)) rfl ?_; apply TL_nil; apply TQ_any
      refine TA_stepL [2, 4] (by kernel_rfl) rfl ⟨?_, ?_, trivial⟩
      · change TL _ _ _ _ _ _ _ _ _ _ _
        refine TL_fieldAddr rfl rfl ?_; apply TL_nil; apply TQ_any
        refine TA_stepL [3, 4] (by kernel_rfl) rfl ⟨?_, ?_, trivial⟩
        · change TL _ _ _ _ _ _ _ _ _ _ _
          refine TL_load1 rfl rfl (by repeat (first | exact List.Mem.head _ | apply List.Mem.tail | apply List.mem_append_right)) rfl ?_; apply TL_nil; apply TQ_any
          refine TA_stepL [4] (by kernel_rfl) rfl ⟨?_, trivial⟩
          change TL _ _ _ _ _ _ _ _ _ _ _
          refine TL_store rfl rfl rfl rfl rfl (by repeat (first | exact Upd.head | apply Upd.tail | apply Upd.right)) rfl ?_; apply TL_nil; apply TQ_any
          refine TA_stepL [5] (by kernel_rfl) rfl ⟨?_, trivial⟩
          change TL _ _ _ _ _ _ _ _ _ _ _
          refine TL_store rfl rfl rfl rfl rfl (by repeat (first | exact Upd.head | apply Upd.tail | apply Upd.right)) rfl ?_; apply TL_nil; apply TQ_any
          refine TA_stepL [6] (by kernel_rfl) rfl ⟨?_, trivial⟩
          change TL _ _ _ _ _ _ _ _ _ _ _
          refine TL_store rfl rfl rfl rfl rfl (by repeat (first | exact Upd.head | apply Upd.tail | apply Upd.right)) rfl ?_; apply TL_nil; apply TQ_any
          refine TA_done (by kernel_rfl) ?_
          exact TQ_end0 Try.results72 (fun w' hs => ⟨⟨_, rfl⟩, rfl, hs.sub (List.sublist_cons_self _ _)⟩)
        · change TL _ _ _ _ _ _ _ _ _ _ _
          refine TL_store rfl rfl rfl rfl rfl (by repeat (first | exact Upd.head | apply Upd.tail | apply Upd.right)) rfl ?_; apply TL_nil; apply TQ_any
          refine TA_stepL [3, 5] (by kernel_rfl) rfl ⟨?_, ?_, trivial⟩
          · change TL _ _ _ _ _ _ _ _ _ _ _
            refine TL_load1 rfl rfl (by repeat (first | exact List.Mem.head _ | apply List.Mem.tail | apply List.mem_append_right)) rfl ?_; apply TL_nil; apply TQ_any
            refine TA_stepL [5] (by kernel_rfl) rfl ⟨?_, trivial⟩
            change TL _ _ _ _ _ _ _ _ _ _ _
            refine TL_store rfl rfl rfl rfl rfl (by repeat (first | exact Upd.head | apply Upd.tail | apply Upd.right)) rfl ?_; apply TL_nil; apply TQ_any
            refine TA_stepL [6] (by kernel_rfl) rfl ⟨?_, trivial⟩
            change TL _ _ _ _ _ _ _ _ _ _ _
            refine TL_store rfl rfl rfl rfl rfl (by repeat (first | exact Upd.head | apply Upd.tail | apply Upd.right)) rfl ?_; apply TL_nil; apply TQ_any
            refine TA_done (by kernel_rfl) ?_
            exact TQ_end0 Try.results72 (fun w' hs => ⟨⟨_, rfl⟩, rfl, hs.sub (List.sublist_cons_self _ _)⟩)
          · change TL _ _ _ _ _ _ _ _ _ _ _
            refine TL_store rfl rfl rfl rfl rfl (by repeat (first | exact Upd.head | apply Upd.tail | apply Upd.right)) rfl ?_; apply TL_nil; apply TQ_any
            refine TA_stepL [3] (by kernel_rfl) rfl ⟨?_, trivial⟩
            change TL _ _ _ _ _ _ _ _ _ _ _
            refine TL_load1 rfl rfl (by repeat (first | exact List.Mem.head _ | apply List.Mem.tail | apply List.mem_append_right)) rfl ?_; apply TL_nil; apply TQ_any
            refine TA_stepL [6] (by kernel_rfl) rfl ⟨?_, trivial⟩
            change TL _ _ _ _ _ _ _ _ _ _ _
            refine TL_store rfl rfl rfl rfl rfl (by repeat (first | exact Upd.head | apply Upd.tail | apply Upd.right)) rfl ?_; apply TL_nil; apply TQ_any
            refine TA_done (by kernel_rfl) ?_
            exact TQ_end0 Try.results72 (fun w' hs => ⟨⟨_, rfl⟩, rfl, hs.sub (List.sublist_cons_self _ _)⟩)
      · change TL _ _ _ _ _ _ _ _ _ _ _
        refine TL_store rfl rfl rfl rfl rfl (by repeat (first | exact Upd.head | apply Upd.tail | apply Upd.right)) rfl ?_; apply TL_nil; apply TQ_any
        refine TA_stepL [2, 5] (by kernel_rfl) rfl ⟨?_, ?_, trivial⟩
        · change TL _ _ _ _ _ _ _ _ _ _ _
          refine TL_fieldAddr rfl rfl ?_; apply TL_nil; apply TQ_any
          refine TA_stepL [3, 5] (by kernel_rfl) rfl ⟨?_, ?_, trivial⟩
          · change TL _ _ _ _ _ _ _ _ _ _ _
            refine TL_load1 rfl rfl (by repeat (first | exact List.Mem.head _ | apply List.Mem.tail | apply List.mem_append_right)) rfl ?_; apply TL_nil; apply TQ_any
            refine TA_stepL [5] (by kernel_rfl) rfl ⟨?_, trivial⟩
            change TL _ _ _ _ _ _ _ _ _ _ _
            refine TL_store rfl rfl rfl rfl rfl (by repeat (first | exact Upd.head | apply Upd.tail | apply Upd.right)) rfl ?_; apply TL_nil; apply TQ_any
            refine TA_stepL [6] (by kernel_rfl) rfl ⟨?_, trivial⟩
            change TL _ _ _ _ _ _ _ _ _ _ _
            refine TL_store rfl rfl rfl rfl rfl (by repeat (first | exact Upd.head | apply Upd.tail | apply Upd.right)) rfl ?_; apply TL_nil; apply TQ_any
            refine TA_done (by kernel_rfl) ?_
            exact TQ_end0 Try.results72 (fun w' hs => ⟨⟨_, rfl⟩, rfl, hs.sub (List.sublist_cons_self _ _)⟩)
          · change TL _ _ _ _ _ _ _ _ _ _ _
            refine TL_store rfl rfl rfl rfl rfl (by repeat (first | exact Upd.head | apply Upd.tail | apply Upd.right)) rfl ?_; apply TL_nil; apply TQ_any
            refine TA_stepL [3] (by kernel_rfl) rfl ⟨?_, trivial⟩
            change TL _ _ _ _ _ _ _ _ _ _ _
            refine TL_load1 rfl rfl (by repeat (first | exact List.Mem.head _ | apply List.Mem.tail | apply List.mem_append_right)) rfl ?_; apply TL_nil; apply TQ_any
            refine TA_stepL [6] (by kernel_rfl) rfl ⟨?_, trivial⟩
            change TL _ _ _ _ _ _ _ _ _ _ _
            refine TL_store rfl rfl rfl rfl rfl (by repeat (first | exact Upd.head | apply Upd.tail | apply Upd.right)) rfl ?_; apply TL_nil; apply TQ_any
            refine TA_done (by kernel_rfl) ?_
            exact TQ_end0 Try.results72 (fun w' hs => ⟨⟨_, rfl⟩, rfl, hs.sub (List.sublist_cons_self _ _)⟩)
        · change TL _ _ _ _ _ _ _ _ _ _ _
          refine TL_store rfl rfl rfl rfl rfl (by repeat (first | exact Upd.head | apply Upd.tail | apply Upd.right)) rfl ?_; apply TL_nil; apply TQ_any
          refine TA_stepL [2] (by kernel_rfl) rfl ⟨?_, trivial⟩
          change TL _ _ _ _ _ _ _ _ _ _ _
          refine TL_fieldAddr rfl rfl ?_; apply TL_nil; apply TQ_any
          refine TA_stepL [3] (by kernel_rfl) rfl ⟨?_, trivial⟩
          change TL _ _ _ _ _ _ _ _ _ _ _
          refine TL_load1 rfl rfl (by repeat (first | exact List.Mem.head _ | apply List.Mem.tail | apply List.mem_append_right)) rfl ?_; apply TL_nil; apply TQ_any
          refine TA_stepL [6] (by kernel_rfl) rfl ⟨?_, trivial⟩
          change TL _ _ _ _ _ _ _ _ _ _ _
          refine TL_store rfl rfl rfl rfl rfl (by repeat (first | exact Upd.head | apply Upd.tail | apply Upd.right)) rfl ?_; apply TL_nil; apply TQ_any
          refine TA_done (by kernel_rfl) ?_
          exact TQ_end0 Try.results72 (fun w' hs => ⟨⟨_, rfl⟩, rfl, hs.sub (List.sublist_cons_self _ _)⟩)
    · change TL _ _ _ _ _ _ _ _ _ _ _
      refine TL_fieldAddr rfl rfl ?_; apply TL_nil; apply TQ_any
      refine TA_stepL [1, 3, 4] (by kernel_rfl) rfl ⟨?_, ?_, ?_, trivial⟩
      · change TL _ _ _ _ _ _ _ _ _ _ _
        refine TL_load1 rfl rfl (by repeat (first | exact List.Mem.head _ | apply List.Mem.tail | apply List.mem_append_right)) rfl ?_; apply TL_nil; apply TQ_any
        refine TA_stepL [3, 4] (by kernel_rfl) rfl ⟨?_, ?_, trivial⟩
        · change TL _ _ _ _ _ _ _ _ _ _ _
          refine TL_load1 rfl rfl (by repeat (first | exact List.Mem.head _ | apply List.Mem.tail | apply List.mem_append_right)) rfl ?_; apply TL_nil; apply TQ_any
          refine TA_stepL [4] (by kernel_rfl) rfl ⟨?_, trivial⟩
          change TL _ _ _ _ _ _ _ _ _ _ _
          refine TL_store rfl rfl rfl rfl rfl (by repeat (first | exact Upd.head | apply Upd.tail | apply Upd.right)) rfl ?_; apply TL_nil; apply TQ_any
          refine TA_stepL [5] (by kernel_rfl) rfl ⟨?_, trivial⟩
          change TL _ _ _ _ _ _ _ _ _ _ _
          refine TL_store rfl rfl rfl rfl rfl (by repeat (first | exact Upd.head | apply Upd.tail | apply Upd.right)) rfl ?_; apply TL_nil; apply TQ_any
          refine TA_stepL [6] (by kernel_rfl) rfl ⟨?_, trivial⟩
          change TL _ _ _ _ _ _ _ _ _ _ _
          refine TL_store rfl rfl rfl rfl rfl (by repeat (first | exact Upd.head | apply Upd.tail | apply Upd.right)) rfl ?_; apply TL_nil; apply TQ_any
          refine TA_done (by kernel_rfl) ?_
          exact TQ_end0 Try.results72 (fun w' hs => ⟨⟨_, rfl⟩, rfl, hs.sub (List.sublist_cons_self _ _)⟩)
        · change TL _ _ _ _ _ _ _ _ _ _ _
          refine TL_store rfl rfl rfl rfl rfl (by repeat (first | exact Upd.head | apply Upd.tail | apply Upd.right)) rfl ?_; apply TL_nil; apply TQ_any
          refine TA_stepL [3, 5] (by kernel_rfl) rfl ⟨?_, ?_, trivial⟩
          · change TL _ _ _ _ _ _ _ _ _ _ _
            refine TL_load1 rfl rfl (by repeat (first | exact List.Mem.head _ | apply List.Mem.tail | apply List.mem_append_right)) rfl ?_; apply TL_nil; apply TQ_any
            refine TA_stepL [5] (by kernel_rfl) rfl ⟨?_, trivial⟩
            change TL _ _ _ _ _ _ _ _ _ _ _
            refine TL_store rfl rfl rfl rfl rfl (by repeat (first | exact Upd.head | apply Upd.tail | apply Upd.right)) rfl ?_; apply TL_nil; apply TQ_any
            refine TA_stepL [6] (by kernel_rfl) rfl ⟨?_, trivial⟩
            change TL _ _ _ _ _ _ _ _ _ _ _
            refine TL_store rfl rfl rfl rfl rfl (by repeat (first | exact Upd.head | apply Upd.tail | apply Upd.right)) rfl ?_; apply TL_nil; apply TQ_any
            refine TA_done (by kernel_rfl) ?_
            exact TQ_end0 Try.results72 (fun w' hs => ⟨⟨_, rfl⟩, rfl, hs.sub (List.sublist_cons_self _ _)⟩)
          · change TL _ _ _ _ _ _ _ _ _ _ _
            refine TL_store rfl rfl rfl rfl rfl (by repeat (first | exact Upd.head | apply Upd.tail | apply Upd.right)) rfl ?_; apply TL_nil; apply TQ_any
            refine TA_stepL [3] (by kernel_rfl) rfl ⟨?_, trivial⟩
            change TL _ _ _ _ _ _ _ _ _ _ _
            refine TL_load1 rfl rfl (by repeat (first | exact List.Mem.head _ | apply List.Mem.tail | apply List.mem_append_right)) rfl ?_; apply TL_nil; apply TQ_any
            refine TA_stepL [6] (by kernel_rfl) rfl ⟨?_, trivial⟩
            change TL _ _ _ _ _ _ _ _ _ _ _
            refine TL_store rfl rfl rfl rfl rfl (by repeat (first | exact Upd.head | apply Upd.tail | apply Upd.right)) rfl ?_; apply TL_nil; apply TQ_any
            refine TA_done (by kernel_rfl) ?_
            exact TQ_end0 Try.results72 (fun w' hs => ⟨⟨_, rfl⟩, rfl, hs.sub (List.sublist_cons_self _ _)⟩)
      · change TL _ _ _ _ _ _ _ _ _ _ _
        refine TL_load1 rfl rfl (by repeat (first | exact List.Mem.head _ | apply List.Mem.tail | apply List.mem_append_right)) rfl ?_; apply TL_nil; apply TQ_any
        refine TA_stepL [1, 4] (by kernel_rfl) rfl ⟨?_, ?_, trivial⟩
        · change TL _ _ _ _ _ _ _ _ _ _ _
          refine TL_load1 rfl rfl (by repeat (first | exact List.Mem.head _ | apply List.Mem.tail | apply List.mem_append_right)) rfl ?_; apply TL_nil; apply TQ_any
          refine TA_stepL [4] (by kernel_rfl) rfl ⟨?_, trivial⟩
          change TL _ _ _ _ _ _ _ _ _ _ _
          refine TL_store rfl rfl rfl rfl rfl (by repeat (first | exact Upd.head | apply Upd.tail | apply Upd.right)) rfl ?_; apply TL_nil; apply TQ_any
          refine TA_stepL [5] (by kernel_rfl) rfl ⟨?_, trivial⟩
          change TL _ _ _ _ _ _ _ _ _ _ _
          refine TL_store rfl rfl rfl rfl rfl (by repeat (first | exact Upd.head | apply Upd.tail | apply Upd.right)) rfl ?_; apply TL_nil; apply TQ_any
          refine TA_stepL [6] (by kernel_rfl) rfl ⟨?_, trivial⟩
          change TL _ _ _ _ _ _ _ _ _ _ _
          refine TL_store rfl rfl rfl rfl rfl (by repeat (first | exact Upd.head | apply Upd.tail | apply Upd.right)) rfl ?_; apply TL_nil; apply TQ_any
          refine TA_done (by kernel_rfl) ?_
          exact TQ_end0 Try.results72 (fun w' hs => ⟨⟨_, rfl⟩, rfl, hs.sub (List.sublist_cons_self _ _)⟩)
        · change TL _ _ _ _ _ _ _ _ _ _ _
          refine TL_store rfl rfl rfl rfl rfl (by repeat (first | exact Upd.head | apply Upd.tail | apply Upd.right)) rfl ?_; apply TL_nil; apply TQ_any
          refine TA_stepL [1] (by kernel_rfl) rfl ⟨?_, trivial⟩
          change TL _ _ _ _ _ _ _ _ _ _ _
          refine TL_load1 rfl rfl (by repeat (first | exact List.Mem.head _ | apply List.Mem.tail | apply List.mem_append_right)) rfl ?_; apply TL_nil; apply TQ_any
          refine TA_stepL [5] (by kernel_rfl) rfl ⟨?_, trivial⟩
          change TL _ _ _ _ _ _ _ _ _ _ _
          refine TL_store rfl rfl rfl rfl rfl (by repeat (first | exact Upd.head | apply Upd.tail | apply Upd.right)) rfl ?_; apply TL_nil; apply TQ_any
          refine TA_stepL [6] (by kernel_rfl) rfl ⟨?_, trivial⟩
          change TL _ _ _ _ _ _ _ _ _ _ _
          refine TL_store rfl rfl rfl rfl rfl (by repeat (first | exact Upd.head | apply Upd.tail | apply Upd.right)) rfl ?_; apply TL_nil; apply TQ_any
          refine TA_done (by kernel_rfl) ?_
          exact TQ_end0 Try.results72 (fun w' hs => ⟨⟨_, rfl⟩, rfl, hs.sub (List.sublist_cons_self _ _)⟩)
      · change TL _ _ _ _ _ _ _ _ _ _ _
        refine TL_store rfl rfl rfl rfl rfl (by repeat (first | exact Upd.head | apply Upd.tail | apply Upd.right)) rfl ?_; apply TL_nil; apply TQ_any
        refine TA_stepL [1, 3] (by kernel_rfl) rfl ⟨?_, ?_, trivial⟩
        · change TL _ _ _ _ _ _ _ _ _ _ _
          refine TL_load1 rfl rfl (by repeat (first | exact List.Mem.head _ | apply List.Mem.tail | apply List.mem_append_right)) rfl ?_; apply TL_nil; apply TQ_any
          refine TA_stepL [3, 5] (by kernel_rfl) rfl ⟨?_, ?_, trivial⟩
          · change TL _ _ _ _ _ _ _ _ _ _ _
            refine TL_load1 rfl rfl (by repeat (first | exact List.Mem.head _ | apply List.Mem.tail | apply List.mem_append_right)) rfl ?_; apply TL_nil; apply TQ_any
            refine TA_stepL [5] (by kernel_rfl) rfl ⟨?_, trivial⟩
            change TL _ _ _ _ _ _ _ _ _ _ _
            refine TL_store rfl rfl rfl rfl rfl (by repeat (first | exact Upd.head | apply Upd.tail | apply Upd.right)) rfl ?_; apply TL_nil; apply TQ_any
            refine TA_stepL [6] (by kernel_rfl) rfl ⟨?_, trivial⟩
            change TL _ _ _ _ _ _ _ _ _ _ _
            refine TL_store rfl rfl rfl rfl rfl (by repeat (first | exact Upd.head | apply Upd.tail | apply Upd.right)) rfl ?_; apply TL_nil; apply TQ_any
            refine TA_done (by kernel_rfl) ?_
            exact TQ_end0 Try.results72 (fun w' hs => ⟨⟨_, rfl⟩, rfl, hs.sub (List.sublist_cons_self _ _)⟩)
          · change TL _ _ _ _ _ _ _ _ _ _ _
            refine TL_store rfl rfl rfl rfl rfl (by repeat (first | exact Upd.head | apply Upd.tail | apply Upd.right)) rfl ?_; apply TL_nil; apply TQ_any
            refine TA_stepL [3] (by kernel_rfl) rfl ⟨?_, trivial⟩
            change TL _ _ _ _ _ _ _ _ _ _ _
            refine TL_load1 rfl rfl (by repeat (first | exact List.Mem.head _ | apply List.Mem.tail | apply List.mem_append_right)) rfl ?_; apply TL_nil; apply TQ_any
            refine TA_stepL [6] (by kernel_rfl) rfl ⟨?_, trivial⟩
            change TL _ _ _ _ _ _ _ _ _ _ _
            refine TL_store rfl rfl rfl rfl rfl (by repeat (first | exact Upd.head | apply Upd.tail | apply Upd.right)) rfl ?_; apply TL_nil; apply TQ_any
            refine TA_done (by kernel_rfl) ?_
            exact TQ_end0 Try.results72 (fun w' hs => ⟨⟨_, rfl⟩, rfl, hs.sub (List.sublist_cons_self _ _)⟩)
        · change TL _ _ _ _ _ _ _ _ _ _ _
          refine TL_load1 rfl rfl (by repeat (first | exact List.Mem.head _ | apply List.Mem.tail | apply List.mem_append_right)) rfl ?_; apply TL_nil; apply TQ_any
          refine TA_stepL [1] (by kernel_rfl) rfl ⟨?_, trivial⟩
          change TL _ _ _ _ _ _ _ _ _ _ _
          refine TL_load1 rfl rfl (by repeat (first | exact List.Mem.head _ | apply List.Mem.tail | apply List.mem_append_right)) rfl ?_; apply TL_nil; apply TQ_any
          refine TA_stepL [5] (by kernel_rfl) rfl ⟨?_, trivial⟩
          change TL _ _ _ _ _ _ _ _ _ _ _
          refine TL_store rfl rfl rfl rfl rfl (by repeat (first | exact Upd.head | apply Upd.tail | apply Upd.right)) rfl ?_; apply TL_nil; apply TQ_any
          refine TA_stepL [6] (by kernel_rfl) rfl ⟨?_, trivial⟩
          change TL _ _ _ _ _ _ _ _ _ _ _
          refine TL_store rfl rfl rfl rfl rfl (by repeat (first | exact Upd.head | apply Upd.tail | apply Upd.right)) rfl ?_; apply TL_nil; apply TQ_any
          refine TA_done (by kernel_rfl) ?_
          exact TQ_end0 Try.results72 (fun w' hs => ⟨⟨_, rfl⟩, rfl, hs.sub (List.sublist_cons_self _ _)⟩)
    · change TL _ _ _ _ _ _ _ _ _ _ _
      refine TL_store rfl rfl rfl rfl rfl (by repeat (first | exact Upd.head | apply Upd.tail | apply Upd.right)) rfl ?_; apply TL_nil; apply TQ_any
      refine TA_stepL [1, 2] (by kernel_rfl) rfl ⟨?_, ?_, trivial⟩
      · change TL _ _ _ _ _ _ _ _ _ _ _
        refine TL_load1 rfl rfl (by repeat (first | exact List.Mem.head _ | apply List.Mem.tail | apply List.mem_append_right)) rfl ?_; apply TL_nil; apply TQ_any
        refine TA_stepL [2, 5] (by kernel_rfl) rfl ⟨?_, ?_, trivial⟩
        · change TL _ _ _ _ _ _ _ _ _ _ _
          refine TL_fieldAddr rfl rfl ?_; apply TL_nil; apply TQ_any
          refine TA_stepL [3, 5] (by kernel_rfl) rfl ⟨?_, ?_, trivial⟩
          · change TL _ _ _ _ _ _ _ _ _ _ _
            refine TL_load1 rfl rfl (by repeat (first | exact List.Mem.head _ | apply List.Mem.tail | apply List.mem_append_right)) rfl ?_; apply TL_nil; apply TQ_any
            refine TA_stepL [5] (by kernel_rfl) rfl ⟨?_, trivial⟩
            change TL _ _ _ _ _ _ _ _ _ _ _
            refine TL_store rfl rfl rfl rfl rfl (by repeat (first | exact Upd.head | apply Upd.tail | apply Upd.right)) rfl ?_; apply TL_nil; apply TQ_any
            refine TA_stepL [6] (by kernel_rfl) rfl ⟨?_, trivial⟩
            change TL _ _ _ _ _ _ _ _ _ _ _
            refine TL_store rfl rfl rfl rfl rfl (by repeat (first | exact Upd.head | apply Upd.tail | apply Upd.right)) rfl ?_; apply TL_nil; apply TQ_any
            refine TA_done (by kernel_rfl) ?_
            exact TQ_end0 Try.results72 (fun w' hs => ⟨⟨_, rfl⟩, rfl, hs.sub (List.sublist_cons_self _ _)⟩)
          · change TL _ _ _ _ _ _ _ _ _ _ _
            refine TL_store rfl rfl rfl rfl rfl (by repeat (first | exact Upd.head | apply Upd.tail | apply Upd.right)) rfl ?_; apply TL_nil; apply TQ_any
            refine TA_stepL [3] (by kernel_rfl) rfl ⟨?_, trivial⟩
            change TL _ _ _ _ _ _ _ _ _ _ _
            refine TL_load1 rfl rfl (by repeat (first | exact List.Mem.head _ | apply List.Mem.tail | apply List.mem_append_right)) rfl ?_; apply TL_nil; apply TQ_any
            refine TA_stepL [6] (by kernel_rfl) rfl ⟨?_, trivial⟩
            change TL _ _ _ _ _ _ _ _ _ _ _
            refine TL_store rfl rfl rfl rfl rfl (by repeat (first | exact Upd.head | apply Upd.tail | apply Upd.right)) rfl ?_; apply TL_nil; apply TQ_any
            refine TA_done (by kernel_rfl) ?_
            exact TQ_end0 Try.results72 (fun w' hs => ⟨⟨_, rfl⟩, rfl, hs.sub (List.sublist_cons_self _ _)⟩)
        · change TL _ _ _ _ _ _ _ _ _ _ _
          refine TL_store rfl rfl rfl rfl rfl (by repeat (first | exact Upd.head | apply Upd.tail | apply Upd.right)) rfl ?_; apply TL_nil; apply TQ_any
          refine TA_stepL [2] (by kernel_rfl) rfl ⟨?_, trivial⟩
          change TL _ _ _ _ _ _ _ _ _ _ _
          refine TL_fieldAddr rfl rfl ?_; apply TL_nil; apply TQ_any
          refine TA_stepL [3] (by kernel_rfl) rfl ⟨?_, trivial⟩
          change TL _ _ _ _ _ _ _ _ _ _ _
          refine TL_load1 rfl rfl (by repeat (first | exact List.Mem.head _ | apply List.Mem.tail | apply List.mem_append_right)) rfl ?_; apply TL_nil; apply TQ_any
          refine TA_stepL [6] (by kernel_rfl) rfl ⟨?_, trivial⟩
          change TL _ _ _ _ _ _ _ _ _ _ _
          refine TL_store rfl rfl rfl rfl rfl (by repeat (first | exact Upd.head | apply Upd.tail | apply Upd.right)) rfl ?_; apply TL_nil; apply TQ_any
          refine TA_done (by kernel_rfl) ?_
          exact TQ_end0 Try.results72 (fun w' hs => ⟨⟨_, rfl⟩, rfl, hs.sub (List.sublist_cons_self _ _)⟩)
      · change TL _ _ _ _ _ _ _ _ _ _ _
        refine TL_fieldAddr rfl rfl ?_; apply TL_nil; apply TQ_any
        refine TA_stepL [1, 3] (by kernel_rfl) rfl ⟨?_, ?_, trivial⟩
        · change TL _ _ _ _ _ _ _ _ _ _ _
          refine TL_load1 rfl rfl (by repeat (first | exact List.Mem.head _ | apply List.Mem.tail | apply List.mem_append_right)) rfl ?_; apply TL_nil; apply TQ_any
          refine TA_stepL [3, 5] (by kernel_rfl) rfl ⟨?_, ?_, trivial⟩
          · change TL _ _ _ _ _ _ _ _ _ _ _
            refine TL_load1 rfl rfl (by repeat (first | exact List.Mem.head _ | apply List.Mem.tail | apply List.mem_append_right)) rfl ?_; apply TL_nil; apply TQ_any
            refine TA_stepL [5] (by kernel_rfl) rfl ⟨?_, trivial⟩
            change TL _ _ _ _ _ _ _ _ _ _ _
            refine TL_store rfl rfl rfl rfl rfl (by repeat (first | exact Upd.head | apply Upd.tail | apply Upd.right)) rfl ?_; apply TL_nil; apply TQ_any
            refine TA_stepL [6] (by kernel_rfl) rfl ⟨?_, trivial⟩
            change TL _ _ _ _ _ _ _ _ _ _ _
            refine TL_store rfl rfl rfl rfl rfl (by repeat (first | exact Upd.head | apply Upd.tail | apply Upd.right)) rfl ?_; apply TL_nil; apply TQ_any
            refine TA_done (by kernel_rfl) ?_
            exact TQ_end0 Try.results72 (fun w' hs => ⟨⟨_, rfl⟩, rfl, hs.sub (List.sublist_cons_self _ _)⟩)
          · change TL _ _ _ _ _ _ _ _ _ _ _
            refine TL_store rfl rfl rfl rfl rfl (by repeat (first | exact Upd.head | apply Upd.tail | apply Upd.right)) rfl ?_; apply TL_nil; apply TQ_any
            refine TA_stepL [3] (by kernel_rfl) rfl ⟨?_, trivial⟩
            change TL _ _ _ _ _ _ _ _ _ _ _
            refine TL_load1 rfl rfl (by repeat (first | exact List.Mem.head _ | apply List.Mem.tail | apply List.mem_append_right)) rfl ?_; apply TL_nil; apply TQ_any
            refine TA_stepL [6] (by kernel_rfl) rfl ⟨?_, trivial⟩
            change TL _ _ _ _ _ _ _ _ _ _ _
            refine TL_store rfl rfl rfl rfl rfl (by repeat (first | exact Upd.head | apply Upd.tail | apply Upd.right)) rfl ?_; apply TL_nil; apply TQ_any
            refine TA_done (by kernel_rfl) ?_
            exact TQ_end0 Try.results72 (fun w' hs => ⟨⟨_, rfl⟩, rfl, hs.sub (List.sublist_cons_self _ _)⟩)
        · change TL _ _ _ _ _ _ _ _ _ _ _
          refine TL_load1 rfl rfl (by repeat (first | exact List.Mem.head _ | apply List.Mem.tail | apply List.mem_append_right)) rfl ?_; apply TL_nil; apply TQ_any
          refine TA_stepL [1] (by kernel_rfl) rfl ⟨?_, trivial⟩
          change TL _ _ _ _ _ _ _ _ _ _ _
          refine TL_load1 rfl rfl (by repeat (first | exact List.Mem.head _ | apply List.Mem.tail | apply List.mem_append_right)) rfl ?_; apply TL_nil; apply TQ_any
          refine TA_stepL [5] (by kernel_rfl) rfl ⟨?_, trivial⟩
          change TL _ _ _ _ _ _ _ _ _ _ _
          refine TL_store rfl rfl rfl rfl rfl (by repeat (first | exact Upd.head | apply Upd.tail | apply Upd.right)) rfl ?_; apply TL_nil; apply TQ_any
          refine TA_stepL [6] (by kernel_rfl) rfl ⟨?_, trivial⟩
          change TL _ _ _ _ _ _ _ _ _ _ _
          refine TL_store rfl rfl rfl rfl rfl (by repeat (first | exact Upd.head | apply Upd.tail | apply Upd.right)) rfl ?_; apply TL_nil; apply TQ_any
          refine TA_done (by kernel_rfl) ?_
          exact TQ_end0 Try.results72 (fun w' hs => ⟨⟨_, rfl⟩, rfl, hs.sub (List.sublist_cons_self _ _)⟩)
  · change TL _ _ _ _ _ _ _ _ _ _ _
    refine TL_fieldAddr rfl rfl ?_; apply TL_nil; apply TQ_any
    refine TA_stepL [0, 3, 4] (by kernel_rfl) rfl ⟨?_, ?_, ?_, trivial⟩
    · change TL _ _ _ _ _ _ _ _ _ _ _
      refine TL_fieldAddr rfl rfl ?_; apply TL_nil; apply TQ_any
      refine TA_stepL [1, 3, 4] (by kernel_rfl) rfl ⟨?_, ?_, ?_, trivial⟩
      · change TL _ _ _ _ _ _ _ _ _ _ _
        refine TL_load1 rfl rfl (by repeat (first | exact List.Mem.head _ | apply List.Mem.tail | apply List.mem_append_right)) rfl ?_; apply TL_nil; apply TQ_any
        refine TA_stepL [3, 4] (by kernel_rfl) rfl ⟨?_, ?_, trivial⟩
        · change TL _ _ _ _ _ _ _ _ _ _ _
          refine TL_load1 rfl rfl (by repeat (first | exact List.Mem.head _ | apply List.Mem.tail | apply List.mem_append_right)) rfl ?_; apply TL_nil; apply TQ_any
          refine TA_stepL [4] (by kernel_rfl) rfl ⟨?_, trivial⟩
          change TL _ _ _ _ _ _ _ _ _ _ _
          refine TL_store rfl rfl rfl rfl rfl (by repeat (first | exact Upd.head | apply Upd.tail | apply Upd.right)) rfl ?_; apply TL_nil; apply TQ_any
          refine TA_stepL [5] (by kernel_rfl) rfl ⟨?_, trivial⟩
          change TL _ _ _ _ _ _ _ _ _ _ _
          refine TL_store rfl rfl rfl rfl rfl (by repeat (first | exact Upd.head | apply Upd.tail | apply Upd.right)) rfl ?_; apply TL_nil; apply TQ_any
          refine TA_stepL [6] (by kernel_rfl) rfl ⟨?_, trivial⟩
          change TL _ _ _ _ _ _ _ _ _ _ _
          refine TL_store rfl rfl rfl rfl rfl (by repeat (first | exact Upd.head | apply Upd.tail | apply Upd.right)) rfl ?_; apply TL_nil; apply TQ_any
          refine TA_done (by kernel_rfl) ?_
          exact TQ_end0 Try.results72 (fun w' hs => ⟨⟨_, rfl⟩, rfl, hs.sub (List.sublist_cons_self _ _)⟩)
        · change TL _ _ _ _ _ _ _ _ _ _ _
          refine TL_store rfl rfl rfl rfl rfl (by repeat (first | exact Upd.head | apply Upd.tail | apply Upd.right)) rfl ?_; apply TL_nil; apply TQ_any
          refine TA_stepL [3, 5] (by kernel_rfl) rfl ⟨?_, ?_, trivial⟩
          · change TL _ _ _ _ _ _ _ _ _ _ _
            refine TL_load1 rfl rfl (by repeat (first | exact List.Mem.head _ | apply List.Mem.tail | apply List.mem_append_right)) rfl ?_; apply TL_nil; apply TQ_any
            refine TA_stepL [5] (by kernel_rfl) rfl ⟨?_, trivial⟩
            change TL _ _ _ _ _ _ _ _ _ _ _
            refine TL_store rfl rfl rfl rfl rfl (by repeat (first | exact Upd.head | apply Upd.tail | apply Upd.right)) rfl ?_; apply TL_nil; apply TQ_any
            refine TA_stepL [6] (by kernel_rfl) rfl ⟨?_, trivial⟩
            change TL _ _ _ _ _ _ _ _ _ _ _
            refine TL_store rfl rfl rfl rfl rfl (by repeat (first | exact Upd.head | apply Upd.tail | apply Upd.right)) rfl ?_; apply TL_nil; apply TQ_any
            refine TA_done (by kernel_rfl) ?_
            exact TQ_end0 Try.results72 (fun w' hs => ⟨⟨_, rfl⟩, rfl, hs.sub (List.sublist_cons_self _ _)⟩)
          · change TL _ _ _ _ _ _ _ _ _ _ _
            refine TL_store rfl rfl rfl rfl rfl (by repeat (first | exact Upd.head | apply Upd.tail | apply Upd.right)) rfl ?_; apply TL_nil; apply TQ_any
            refine TA_stepL [3] (by kernel_rfl) rfl ⟨?_, trivial⟩
            change TL _ _ _ _ _ _ _ _ _ _ _
            refine TL_load1 rfl rfl (by repeat (first | exact List.Mem.head _ | apply List.Mem.tail | apply List.mem_append_right)) rfl ?_; apply TL_nil; apply TQ_any
            refine TA_stepL [6] (by kernel_rfl) rfl ⟨?_, trivial⟩
            change TL _ _ _ _ _ _ _ _ _ _ _
            refine TL_store rfl rfl rfl rfl rfl (by repeat (first | exact Upd.head | apply Upd.tail | apply Upd.right)) rfl ?_; apply TL_nil; apply TQ_any
            refine TA_done (by kernel_rfl) ?_
            exact TQ_end0 Try.results72 (fun w' hs => ⟨⟨_, rfl⟩, rfl, hs.sub (List.sublist_cons_self _ _)⟩)
      · change TL _ _ _ _ _ _ _ _ _ _ _
        refine TL_load1 rfl rfl (by repeat (first | exact List.Mem.head _ | apply List.Mem.tail | apply List.mem_append_right)) rfl ?_; apply TL_nil; apply TQ_any
        refine TA_stepL [1, 4] (by kernel_rfl) rfl ⟨?_, ?_, trivial⟩
        · change TL _ _ _ _ _ _ _ _ _ _ _
          refine TL_load1 rfl rfl (by repeat (first | exact List.Mem.head _ | apply List.Mem.tail | apply List.mem_append_right)) rfl ?_; apply TL_nil; apply TQ_any
          refine TA_stepL [4] (by kernel_rfl) rfl ⟨?_, trivial⟩
          change TL _ _ _ _ _ _ _ _ _ _ _
          refine TL_store rfl rfl rfl rfl rfl (by repeat (first | exact Upd.head | apply Upd.tail | apply Upd.right)) rfl ?_; apply TL_nil; apply TQ_any
          refine TA_stepL [5] (by kernel_rfl) rfl ⟨?_, trivial⟩
          change TL _ _ _ _ _ _ _ _ _ _ _
          refine TL_store rfl rfl rfl rfl rfl (by repeat (first | exact Upd.head | apply Upd.tail | apply Upd.right)) rfl ?_; apply TL_nil; apply TQ_any
          refine TA_stepL [6] (by kernel_rfl) rfl ⟨?_, trivial⟩
          change TL _ _ _ _ _ _ _ _ _ _ _
          refine TL_store rfl rfl rfl rfl rfl (by repeat (first | exact Upd.head | apply Upd.tail | apply Upd.right)) rfl ?_; apply TL_nil; apply TQ_any
          refine TA_done (by kernel_rfl) ?_
          exact TQ_end0 Try.results72 (fun w' hs => ⟨⟨_, rfl⟩, rfl, hs.sub (List.sublist_cons_self _ _)⟩)
        · change TL _ _ _ _ _ _ _ _ _ _ _
          refine TL_store rfl rfl rfl rfl rfl (by repeat (first | exact Upd.head | apply Upd.tail | apply Upd.right)) rfl ?_; apply TL_nil; apply TQ_any
          refine TA_stepL [1] (by kernel_rfl) rfl ⟨?_, trivial⟩
          change TL _ _ _ _ _ _ _ _ _ _ _
          refine TL_load1 rfl rfl (by repeat (first | exact List.Mem.head _ | apply List.Mem.tail | apply List.mem_append_right)) rfl ?_; apply TL_nil; apply TQ_any
          refine TA_stepL [5] (by kernel_rfl) rfl ⟨?_, trivial⟩
          change TL _ _ _ _ _ _ _ _ _ _ _
          refine TL_store rfl rfl rfl rfl rfl (by repeat (first | exact Upd.head | apply Upd.tail | apply Upd.right)) rfl ?_; apply TL_nil; apply TQ_any
          refine TA_stepL [6] (by kernel_rfl) rfl ⟨?_, trivial⟩
          change TL _ _ _ _ _ _ _ _ _ _ _
          refine TL_store rfl rfl rfl rfl rfl (by repeat (first | exact Upd.head | apply Upd.tail | apply Upd.right)) rfl ?_; apply TL_nil; apply TQ_any
          refine TA_done (by kernel_rfl) ?_
          exact TQ_end0 Try.results72 (fun w' hs => ⟨⟨_, rfl⟩, rfl, hs.sub (List.sublist_cons_self _ _)⟩)
      · change TL _ _ _ _ _ _ _ _ _ _ _
        refine TL_store rfl rfl rfl rfl rfl (by repeat (first | exact Upd.head | apply Upd.tail | apply Upd.right)) rfl ?_; apply TL_nil; apply TQ_any
        refine TA_stepL [1, 3] (by kernel_rfl) rfl ⟨?_, ?_, trivial⟩
        · change TL _ _ _ _ _ _ _ _ _ _ _
          refine TL_load1 rfl rfl (by repeat (first | exact List.Mem.head _ | apply List.Mem.tail | apply List.mem_append_right)) rfl ?_; apply TL_nil; apply TQ_any
          refine TA_stepL [3, 5] (by kernel_rfl) rfl ⟨?_, ?_, trivial⟩
          · change TL _ _ _ _ _ _ _ _ _ _ _
            refine TL_load1 rfl rfl (by repeat (first | exact List.Mem.head _ | apply List.Mem.tail | apply List.mem_append_right)) rfl ?_; apply TL_nil; apply TQ_any
            refine TA_stepL [5] (by kernel_rfl) rfl ⟨?_, trivial⟩
            change TL _ _ _ _ _ _ _ _ _ _ _
            refine TL_store rfl rfl rfl rfl rfl (by repeat (first | exact Upd.head | apply Upd.tail | apply Upd.right)) rfl ?_; apply TL_nil; apply TQ_any
            refine TA_stepL [6] (by kernel_rfl) rfl ⟨?_, trivial⟩
            change TL _ _ _ _ _ _ _ _ _ _ _
            refine TL_store rfl rfl rfl rfl rfl (by repeat (first | exact Upd.head | apply Upd.tail | apply Upd.right)) rfl ?_; apply TL_nil; apply TQ_any
            refine TA_done (by kernel_rfl) ?_
            exact TQ_end0 Try.results72 (fun w' hs => ⟨⟨_, rfl⟩, rfl, hs.sub (List.sublist_cons_self _ _)⟩)
          · change TL _ _ _ _ _ _ _ _ _ _ _
            refine TL_store rfl rfl rfl rfl rfl (by repeat (first | exact Upd.head | apply Upd.tail | apply Upd.right)) rfl ?_; apply TL_nil; apply TQ_any
            refine TA_stepL [3] (by kernel_rfl) rfl ⟨?_, trivial⟩
            change TL _ _ _ _ _ _ _ _ _ _ _
            refine TL_load1 rfl rfl (by repeat (first | exact List.Mem.head _ | apply List.Mem.tail | apply List.mem_append_right)) rfl ?_; apply TL_nil; apply TQ_any
            refine TA_stepL [6] (by kernel_rfl) rfl ⟨?_, trivial⟩
            change TL _ _ _ _ _ _ _ _ _ _ _
            refine TL_store rfl rfl rfl rfl rfl (by repeat (first | exact Upd.head | apply Upd.tail | apply Upd.right)) rfl ?_; apply TL_nil; apply TQ_any
            refine TA_done (by kernel_rfl) ?_
            exact TQ_end0 Try.results72 (fun w' hs => ⟨⟨_, rfl⟩, rfl, hs.sub (List.sublist_cons_self _ _)⟩)
        · change TL _ _ _ _ _ _ _ _ _ _ _
          refine TL_load1 rfl rfl (by repeat (first | exact List.Mem.head _ | apply List.Mem.tail | apply List.mem_append_right)) rfl ?_; apply TL_nil; apply TQ_any
          refine TA_stepL [1] (by kernel_rfl) rfl ⟨?_, trivial⟩
          change TL _ _ _ _ _ _ _ _ _ _ _
          refine TL_load1 rfl rfl (by repeat (first | exact List.Mem.head _ | apply List.Mem.tail | apply List.mem_append_right)) rfl ?_; apply TL_nil; apply TQ_any
          refine TA_stepL [5] (by kernel_rfl) rfl ⟨?_, trivial⟩
          change TL _ _ _ _ _ _ _ _ _ _ _
          refine TL_store rfl rfl rfl rfl rfl (by repeat (first | exact Upd.head | apply Upd.tail | apply Upd.right)) rfl ?_; apply TL_nil; apply TQ_any
          refine TA_stepL [6] (by kernel_rfl) rfl ⟨?_, trivial⟩
          change TL _ _ _ _ _ _ _ _ _ _ _
          refine TL_store rfl rfl rfl rfl rfl (by repeat (first | exact Upd.head | apply Upd.tail | apply Upd.right)) rfl ?_; apply TL_nil; apply TQ_any
          refine TA_done (by kernel_rfl) ?_
          exact TQ_end0 Try.results72 (fun w' hs => ⟨⟨_, rfl⟩, rfl, hs.sub (List.sublist_cons_self _ _)⟩)
    · change TL _ _ _ _ _ _ _ _ _ _ _
      refine TL_load1 rfl rfl (by repeat (first | exact List.Mem.head _ | apply List.Mem.tail | apply List.mem_append_right)) rfl ?_; apply TL_nil; apply TQ_any
      refine TA_stepL [0, 4] (by kernel_rfl) rfl ⟨?_, ?_, trivial⟩
      · change TL _ _ _ _ _ _ _ _ _ _ _
        refine TL_fieldAddr rfl rfl ?_; apply TL_nil; apply TQ_any
        refine TA_stepL [1, 4] (by kernel_rfl) rfl ⟨?_, ?_, trivial⟩
        · change TL _ _ _ _ _ _ _ _ _ _ _
          refine TL_load1 rfl rfl (by repeat (first | exact List.Mem.head _ | apply List.Mem.tail | apply List.mem_append_right)) rfl ?_; apply TL_nil; apply TQ_any
          refine TA_stepL [4] (by kernel_rfl) rfl ⟨?_, trivial⟩
          change TL _ _ _ _ _ _ _ _ _ _ _
          refine TL_store rfl rfl rfl rfl rfl (by repeat (first | exact Upd.head | apply Upd.tail | apply Upd.right)) rfl ?_; apply TL_nil; apply TQ_any
          refine TA_stepL [5] (by kernel_rfl) rfl ⟨?_, trivial⟩
          change TL _ _ _ _ _ _ _ _ _ _ _
          refine TL_store rfl rfl rfl rfl rfl (by repeat (first | exact Upd.head | apply Upd.tail | apply Upd.right)) rfl ?_; apply TL_nil; apply TQ_any
          refine TA_stepL [6] (by kernel_rfl) rfl ⟨?_, trivial⟩
          change TL _ _ _ _ _ _ _ _ _ _ _
          refine TL_store rfl rfl rfl rfl rfl (by repeat (first | exact Upd.head | apply Upd.tail | apply Upd.right)) rfl ?_; apply TL_nil; apply TQ_any
          refine TA_done (by kernel_rfl) ?_
          exact TQ_end0 Try.results72 (fun w' hs => ⟨⟨_, rfl⟩, rfl, hs.sub (List.sublist_cons_self _ _)⟩)
        · change TL _ _ _ _ _ _ _ _ _ _ _
          refine TL_store rfl rfl rfl rfl rfl (by repeat (first | exact Upd.head | apply Upd.tail | apply Upd.right)) rfl ?_; apply TL_nil; apply TQ_any
          refine TA_stepL [1] (by kernel_rfl) rfl ⟨?_, trivial⟩
          change TL _ _ _ _ _ _ _ _ _ _ _
          refine TL_load1 rfl rfl (by repeat (first | exact List.Mem.head _ | apply List.Mem.tail | apply List.mem_append_right)) rfl ?_; apply TL_nil; apply TQ_any
          refine TA_stepL [5] (by kernel_rfl) rfl ⟨?_, trivial⟩
          change TL _ _ _ _ _ _ _ _ _ _ _
          refine TL_store rfl rfl rfl rfl rfl (by repeat (first | exact Upd.head | apply Upd.tail | apply Upd.right)) rfl ?_; apply TL_nil; apply TQ_any
          refine TA_stepL [6] (by kernel_rfl) rfl ⟨?_, trivial⟩
          change TL _ _ _ _ _ _ _ _ _ _ _
          refine TL_store rfl rfl rfl rfl rfl (by repeat (first | exact Upd.head | apply Upd.tail | apply Upd.right)) rfl ?_; apply TL_nil; apply TQ_any
          refine TA_done (by kernel_rfl) ?_
          exact TQ_end0 Try.results72 (fun w' hs => ⟨⟨_, rfl⟩, rfl, hs.sub (List.sublist_cons_self _ _)⟩)
      · change TL _ _ _ _ _ _ _ _ _ _ _
        refine TL_store rfl rfl rfl rfl rfl (by repeat (first | exact Upd.head | apply Upd.tail | apply Upd.right)) rfl ?_; apply TL_nil; apply TQ_any
        refine TA_stepL [0] (by kernel_rfl) rfl ⟨?_, trivial⟩
        change TL _ _ _ _ _ _ _ _ _ _ _
        refine TL_fieldAddr rfl rfl ?_; apply TL_nil; apply TQ_any
        refine TA_stepL [1] (by kernel_rfl) rfl ⟨?_, trivial⟩
        change TL _ _ _ _ _ _ _ _ _ _ _
        refine TL_load1 rfl rfl (by repeat (first | exact List.Mem.head _ | apply List.Mem.tail | apply List.mem_append_right)) rfl ?_; apply TL_nil; apply TQ_any
        refine TA_stepL [5] (by kernel_rfl) rfl ⟨?_, trivial⟩
        change TL _ _ _ _ _ _ _ _ _ _ _
        refine TL_store rfl rfl rfl rfl rfl (by repeat (first | exact Upd.head | apply Upd.tail | apply Upd.right)) rfl ?_; apply TL_nil; apply TQ_any
        refine TA_stepL [6] (by kernel_rfl) rfl ⟨?_, trivial⟩
        change TL _ _ _ _ _ _ _ _ _ _ _
        refine TL_store rfl rfl rfl rfl rfl (by repeat (first | exact Upd.head | apply Upd.tail | apply Upd.right)) rfl ?_; apply TL_nil; apply TQ_any
        refine TA_done (by kernel_rfl) ?_
        exact TQ_end0 Try.results72 (fun w' hs => ⟨⟨_, rfl⟩, rfl, hs.sub (List.sublist_cons_self _ _)⟩)
    · change TL _ _ _ _ _ _ _ _ _ _ _
      refine TL_store rfl rfl rfl rfl rfl (by repeat (first | exact Upd.head | apply Upd.tail | apply Upd.right)) rfl ?_; apply TL_nil; apply TQ_any
      refine TA_stepL [0, 3] (by kernel_rfl) rfl ⟨?_, ?_, trivial⟩
      · change TL _ _ _ _ _ _ _ _ _ _ _
        refine TL_fieldAddr rfl rfl ?_; apply TL_nil; apply TQ_any
        refine TA_stepL [1, 3] (by kernel_rfl) rfl ⟨?_, ?_, trivial⟩
        · change TL _ _ _ _ _ _ _ _ _ _ _
          refine TL_load1 rfl rfl (by repeat (first | exact List.Mem.head _ | apply List.Mem.tail | apply List.mem_append_right)) rfl ?_; apply TL_nil; apply TQ_any
          refine TA_stepL [3, 5] (by kernel_rfl) rfl ⟨?_, ?_, trivial⟩
          · change TL _ _ _ _ _ _ _ _ _ _ _
            refine TL_load1 rfl rfl (by repeat (first | exact List.Mem.head _ | apply List.Mem.tail | apply List.mem_append_right)) rfl ?_; apply TL_nil; apply TQ_any
            refine TA_stepL [5] (by kernel_rfl) rfl ⟨?_, trivial⟩
            change TL _ _ _ _ _ _ _ _ _ _ _
            refine TL_store rfl rfl rfl rfl rfl (by repeat (first | exact Upd.head | apply Upd.tail | apply Upd.right)) rfl ?_; apply TL_nil; apply TQ_any
            refine TA_stepL [6] (by kernel_rfl) rfl ⟨?_, trivial⟩
            change TL _ _ _ _ _ _ _ _ _ _ _
            refine TL_store rfl rfl rfl rfl rfl (by repeat (first | exact Upd.head | apply Upd.tail | apply Upd.right)) rfl ?_; apply TL_nil; apply TQ_any
            refine TA_done (by kernel_rfl) ?_
            exact TQ_end0 Try.results72 (fun w' hs => ⟨⟨_, rfl⟩, rfl, hs.sub (List.sublist_cons_self _ _)⟩)
          · change TL _ _ _ _ _ _ _ _ _ _ _
            refine TL_store rfl rfl rfl rfl rfl (by repeat (first | exact Upd.head | apply Upd.tail | apply Upd.right)) rfl ?_; apply TL_nil; apply TQ_any
            refine TA_stepL [3] (by kernel_rfl) rfl ⟨?_, trivial⟩
            change TL _ _ _ _ _ _ _ _ _ _ _
            refine TL_load1 rfl rfl (by repeat (first | exact List.Mem.head _ | apply List.Mem.tail | apply List.mem_append_right)) rfl ?_; apply TL_nil; apply TQ_any
            refine TA_stepL [6] (by kernel_rfl) rfl ⟨?_, trivial⟩
            change TL _ _ _ _ _ _ _ _ _ _ _
            refine TL_store rfl rfl rfl rfl rfl (by repeat (first | exact Upd.head | apply Upd.tail | apply Upd.right)) rfl ?_; apply TL_nil; apply TQ_any
            refine TA_done (by kernel_rfl) ?_
            exact TQ_end0 Try.results72 (fun w' hs => ⟨⟨_, rfl⟩, rfl, hs.sub (List.sublist_cons_self _ _)⟩)
        · change TL _ _ _ _ _ _ _ _ _ _ _
          refine TL_load1 rfl rfl (by repeat (first | exact List.Mem.head _ | apply List.Mem.tail | apply List.mem_append_right)) rfl ?_; apply TL_nil; apply TQ_any
          refine TA_stepL [1] (by kernel_rfl) rfl ⟨?_, trivial⟩
          change TL _ _ _ _ _ _ _ _ _ _ _
          refine TL_load1 rfl rfl (by repeat (first | exact List.Mem.head _ | apply List.Mem.tail | apply List.mem_append_right)) rfl ?_; apply TL_nil; apply TQ_any
          refine TA_stepL [5] (by kernel_rfl) rfl ⟨?_, trivial⟩
          change TL _ _ _ _ _ _ _ _ _ _ _
          refine TL_store rfl rfl rfl rfl rfl (by repeat (first | exact Upd.head | apply Upd.tail | apply Upd.right)) rfl ?_; apply TL_nil; apply TQ_any
          refine TA_stepL [6] (by kernel_rfl) rfl ⟨?_, trivial⟩
          change TL _ _ _ _ _ _ _ _ _ _ _
          refine TL_store rfl rfl rfl rfl rfl (by repeat (first | exact Upd.head | apply Upd.tail | apply Upd.right)) rfl ?_; apply TL_nil; apply TQ_any
          refine TA_done (by kernel_rfl) ?_
          exact TQ_end0 Try.results72 (fun w' hs => ⟨⟨_, rfl⟩, rfl, hs.sub (List.sublist_cons_self _ _)⟩)
      · change TL _ _ _ _ _ _ _ _ _ _ _
        refine TL_load1 rfl rfl (by repeat (first | exact List.Mem.head _ | apply List.Mem.tail | apply List.mem_append_right)) rfl ?_; apply TL_nil; apply TQ_any
        refine TA_stepL [0] (by kernel_rfl) rfl ⟨?_, trivial⟩
        change TL _ _ _ _ _ _ _ _ _ _ _
        refine TL_fieldAddr rfl rfl ?_; apply TL_nil; apply TQ_any
        refine TA_stepL [1] (by kernel_rfl) rfl ⟨?_, trivial⟩
        change TL _ _ _ _ _ _ _ _ _ _ _
        refine TL_load1 rfl rfl (by repeat (first | exact List.Mem.head _ | apply List.Mem.tail | apply List.mem_append_right)) rfl ?_; apply TL_nil; apply TQ_any
        refine TA_stepL [5] (by kernel_rfl) rfl ⟨?_, trivial⟩
        change TL _ _ _ _ _ _ _ _ _ _ _
        refine TL_store rfl rfl rfl rfl rfl (by repeat (first | exact Upd.head | apply Upd.tail | apply Upd.right)) rfl ?_; apply TL_nil; apply TQ_any
        refine TA_stepL [6] (by kernel_rfl) rfl ⟨?_, trivial⟩
        change TL _ _ _ _ _ _ _ _ _ _ _
        refine TL_store rfl rfl rfl rfl rfl (by repeat (first | exact Upd.head | apply Upd.tail | apply Upd.right)) rfl ?_; apply TL_nil; apply TQ_any
        refine TA_done (by kernel_rfl) ?_
        exact TQ_end0 Try.results72 (fun w' hs => ⟨⟨_, rfl⟩, rfl, hs.sub (List.sublist_cons_self _ _)⟩)
  · change TL _ _ _ _ _ _ _ _ _ _ _
    refine TL_store rfl rfl rfl rfl rfl (by repeat (first | exact Upd.head | apply Upd.tail | apply Upd.right)) rfl ?_; apply TL_nil; apply TQ_any
    refine TA_stepL [0, 2] (by kernel_rfl) rfl ⟨?_, ?_, trivial⟩
    · change TL _ _ _ _ _ _ _ _ _ _ _
      refine TL_fieldAddr rfl rfl ?_; apply TL_nil; apply TQ_any
      refine TA_stepL [1, 2] (by kernel_rfl) rfl ⟨?_, ?_, trivial⟩
      · change TL _ _ _ _ _ _ _ _ _ _ _
        refine TL_load1 rfl rfl (by repeat (first | exact List.Mem.head _ | apply List.Mem.tail | apply List.mem_append_right)) rfl ?_; apply TL_nil; apply TQ_any
        refine TA_stepL [2, 5] (by kernel_rfl) rfl ⟨?_, ?_, trivial⟩
        · change TL _ _ _ _ _ _ _ _ _ _ _
          refine TL_fieldAddr rfl rfl ?_; apply TL_nil; apply TQ_any
          refine TA_stepL [3, 5] (by kernel_rfl) rfl ⟨?_, ?_, trivial⟩
          · change TL _ _ _ _ _ _ _ _ _ _ _
            refine TL_load1 rfl rfl (by repeat (first | exact List.Mem.head _ | apply List.Mem.tail | apply List.mem_append_right)) rfl ?_; apply TL_nil; apply TQ_any
            refine TA_stepL [5] (by kernel_rfl) rfl ⟨?_, trivial⟩
            change TL _ _ _ _ _ _ _ _ _ _ _
            refine TL_store rfl rfl rfl rfl rfl (by repeat (first | exact Upd.head | apply Upd.tail | apply Upd.right)) rfl ?_; apply TL_nil; apply TQ_any
            refine TA_stepL [6] (by kernel_rfl) rfl ⟨?_, trivial⟩
            change TL _ _ _ _ _ _ _ _ _ _ _
            refine TL_store rfl rfl rfl rfl rfl (by repeat (first | exact Upd.head | apply Upd.tail | apply Upd.right)) rfl ?_; apply TL_nil; apply TQ_any
            refine TA_done (by kernel_rfl) ?_
            exact TQ_end0 Try.results72 (fun w' hs => ⟨⟨_, rfl⟩, rfl, hs.sub (List.sublist_cons_self _ _)⟩)
          · change TL _ _ _ _ _ _ _ _ _ _ _
            refine TL_store rfl rfl rfl rfl rfl (by repeat (first | exact Upd.head | apply Upd.tail | apply Upd.right)) rfl ?_; apply TL_nil; apply TQ_any
            refine TA_stepL [3] (by kernel_rfl) rfl ⟨?_, trivial⟩
            change TL _ _ _ _ _ _ _ _ _ _ _
            refine TL_load1 rfl rfl (by repeat (first | exact List.Mem.head _ | apply List.Mem.tail | apply List.mem_append_right)) rfl ?_; apply TL_nil; apply TQ_any
            refine TA_stepL [6] (by kernel_rfl) rfl ⟨?_, trivial⟩
            change TL _ _ _ _ _ _ _ _ _ _ _
            refine TL_store rfl rfl rfl rfl rfl (by repeat (first | exact Upd.head | apply Upd.tail | apply Upd.right)) rfl ?_; apply TL_nil; apply TQ_any
            refine TA_done (by kernel_rfl) ?_
            exact TQ_end0 Try.results72 (fun w' hs => ⟨⟨_, rfl⟩, rfl, hs.sub (List.sublist_cons_self _ _)⟩)
        · change TL _ _ _ _ _ _ _ _ _ _ _
          refine TL_store rfl rfl rfl rfl rfl (by repeat (first | exact Upd.head | apply Upd.tail | apply Upd.right)) rfl ?_; apply TL_nil; apply TQ_any
          refine TA_stepL [2] (by kernel_rfl) rfl ⟨?_, trivial⟩
          change TL _ _ _ _ _ _ _ _ _ _ _
          refine TL_fieldAddr rfl rfl ?_; apply TL_nil; apply TQ_any
          refine TA_stepL [3] (by kernel_rfl) rfl ⟨?_, trivial⟩
          change TL _ _ _ _ _ _ _ _ _ _ _
          refine TL_load1 rfl rfl (by repeat (first | exact List.Mem.head _ | apply List.Mem.tail | apply List.mem_append_right)) rfl ?_; apply TL_nil; apply TQ_any
          refine TA_stepL [6] (by kernel_rfl) rfl ⟨?_, trivial⟩
          change TL _ _ _ _ _ _ _ _ _ _ _
          refine TL_store rfl rfl rfl rfl rfl (by repeat (first | exact Upd.head | apply Upd.tail | apply Upd.right)) rfl ?_; apply TL_nil; apply TQ_any
          refine TA_done (by kernel_rfl) ?_
          exact TQ_end0 Try.results72 (fun w' hs => ⟨⟨_, rfl⟩, rfl, hs.sub (List.sublist_cons_self _ _)⟩)
      · change TL _ _ _ _ _ _ _ _ _ _ _
        refine TL_fieldAddr rfl rfl ?_; apply TL_nil; apply TQ_any
        refine TA_stepL [1, 3] (by kernel_rfl) rfl ⟨?_, ?_, trivial⟩
        · change TL _ _ _ _ _ _ _ _ _ _ _
          refine TL_load1 rfl rfl (by repeat (first | exact List.Mem.head _ | apply List.Mem.tail | apply List.mem_append_right)) rfl ?_; apply TL_nil; apply TQ_any
          refine TA_stepL [3, 5] (by kernel_rfl) rfl ⟨?_, ?_, trivial⟩
          · change TL _ _ _ _ _ _ _ _ _ _ _
            refine TL_load1 rfl rfl (by repeat (first | exact List.Mem.head _ | apply List.Mem.tail | apply List.mem_append_right)) rfl ?_; apply TL_nil; apply TQ_any
            refine TA_stepL [5] (by kernel_rfl) rfl ⟨?_, trivial⟩
            change TL _ _ _ _ _ _ _ _ _ _ _
            refine TL_store rfl rfl rfl rfl rfl (by repeat (first | exact Upd.head | apply Upd.tail | apply Upd.right)) rfl ?_; apply TL_nil; apply TQ_any
            refine TA_stepL [6] (by kernel_rfl) rfl ⟨?_, trivial⟩
            change TL _ _ _ _ _ _ _ _ _ _ _
            refine TL_store rfl rfl rfl rfl rfl (by repeat (first | exact Upd.head | apply Upd.tail | apply Upd.right)) rfl ?_; apply TL_nil; apply TQ_any
            refine TA_done (by kernel_rfl) ?_
            exact TQ_end0 Try.results72 (fun w' hs => ⟨⟨_, rfl⟩, rfl, hs.sub (List.sublist_cons_self _ _)⟩)
          · change TL _ _ _ _ _ _ _ _ _ _ _
            refine TL_store rfl rfl rfl rfl rfl (by repeat (first | exact Upd.head | apply Upd.tail | apply Upd.right)) rfl ?_; apply TL_nil; apply TQ_any
            refine TA_stepL [3] (by kernel_rfl) rfl ⟨?_, trivial⟩
            change TL _ _ _ _ _ _ _ _ _ _ _
            refine TL_load1 rfl rfl (by repeat (first | exact List.Mem.head _ | apply List.Mem.tail | apply List.mem_append_right)) rfl ?_; apply TL_nil; apply TQ_any
            refine TA_stepL [6] (by kernel_rfl) rfl ⟨?_, trivial⟩
            change TL _ _ _ _ _ _ _ _ _ _ _
            refine TL_store rfl rfl rfl rfl rfl (by repeat (first | exact Upd.head | apply Upd.tail | apply Upd.right)) rfl ?_; apply TL_nil; apply TQ_any
            refine TA_done (by kernel_rfl) ?_
            exact TQ_end0 Try.results72 (fun w' hs => ⟨⟨_, rfl⟩, rfl, hs.sub (List.sublist_cons_self _ _)⟩)
        · change TL _ _ _ _ _ _ _ _ _ _ _
          refine TL_load1 rfl rfl (by repeat (first | exact List.Mem.head _ | apply List.Mem.tail | apply List.mem_append_right)) rfl ?_; apply TL_nil; apply TQ_any
          refine TA_stepL [1] (by kernel_rfl) rfl ⟨?_, trivial⟩
          change TL _ _ _ _ _ _ _ _ _ _ _
          refine TL_load1 rfl rfl (by repeat (first | exact List.Mem.head _ | apply List.Mem.tail | apply List.mem_append_right)) rfl ?_; apply TL_nil; apply TQ_any
          refine TA_stepL [5] (by kernel_rfl) rfl ⟨?_, trivial⟩
          change TL _ _ _ _ _ _ _ _ _ _ _
          refine TL_store rfl rfl rfl rfl rfl (by repeat (first | exact Upd.head | apply Upd.tail | apply Upd.right)) rfl ?_; apply TL_nil; apply TQ_any
          refine TA_stepL [6] (by kernel_rfl) rfl ⟨?_, trivial⟩
          change TL _ _ _ _ _ _ _ _ _ _ _
          refine TL_store rfl rfl rfl rfl rfl (by repeat (first | exact Upd.head | apply Upd.tail | apply Upd.right)) rfl ?_; apply TL_nil; apply TQ_any
          refine TA_done (by kernel_rfl) ?_
          exact TQ_end0 Try.results72 (fun w' hs => ⟨⟨_, rfl⟩, rfl, hs.sub (List.sublist_cons_self _ _)⟩)
    · change TL _ _ _ _ _ _ _ _ _ _ _
      refine TL_fieldAddr rfl rfl ?_; apply TL_nil; apply TQ_any
      refine TA_stepL [0, 3] (by kernel_rfl) rfl ⟨?_, ?_, trivial⟩
      · change TL _ _ _ _ _ _ _ _ _ _ _
        refine TL_fieldAddr rfl rfl ?_; apply TL_nil; apply TQ_any
        refine TA_stepL [1, 3] (by kernel_rfl) rfl ⟨?_, ?_, trivial⟩
        · change TL _ _ _ _ _ _ _ _ _ _ _
          refine TL_load1 rfl rfl (by repeat (first | exact List.Mem.head _ | apply List.Mem.tail | apply List.mem_append_right)) rfl ?_; apply TL_nil; apply TQ_any
          refine TA_stepL [3, 5] (by kernel_rfl) rfl ⟨?_, ?_, trivial⟩
          · change TL _ _ _ _ _ _ _ _ _ _ _
            refine TL_load1 rfl rfl (by repeat (first | exact List.Mem.head _ | apply List.Mem.tail | apply List.mem_append_right)) rfl ?_; apply TL_nil; apply TQ_any
            refine TA_stepL [5] (by kernel_rfl) rfl ⟨?_, trivial⟩
            change TL _ _ _ _ _ _ _ _ _ _ _
            refine TL_store rfl rfl rfl rfl rfl (by repeat (first | exact Upd.head | apply Upd.tail | apply Upd.right)) rfl ?_; apply TL_nil; apply TQ_any
            refine TA_stepL [6] (by kernel_rfl) rfl ⟨?_, trivial⟩
            change TL _ _ _ _ _ _ _ _ _ _ _
            refine TL_store rfl rfl rfl rfl rfl (by repeat (first | exact Upd.head | apply Upd.tail | apply Upd.right)) rfl ?_; apply TL_nil; apply TQ_any
            refine TA_done (by kernel_rfl) ?_
            exact TQ_end0 Try.results72 (fun w' hs => ⟨⟨_, rfl⟩, rfl, hs.sub (List.sublist_cons_self _ _)⟩)
          · change TL _ _ _ _ _ _ _ _ _ _ _
            refine TL_store rfl rfl rfl rfl rfl (by repeat (first | exact Upd.head | apply Upd.tail | apply Upd.right)) rfl ?_; apply TL_nil; apply TQ_any
            refine TA_stepL [3] (by kernel_rfl) rfl ⟨?_, trivial⟩
            change TL _ _ _ _ _ _ _ _ _ _ _
            refine TL_load1 rfl rfl (by repeat (first | exact List.Mem.head _ | apply List.Mem.tail | apply List.mem_append_right)) rfl ?_; apply TL_nil; apply TQ_any
            refine TA_stepL [6] (by kernel_rfl) rfl ⟨?_, trivial⟩
            change TL _ _ _ _ _ _ _ _ _ _ _
            refine TL_store rfl rfl rfl rfl rfl (by repeat (first | exact Upd.head | apply Upd.tail | apply Upd.right)) rfl ?_; apply TL_nil; apply TQ_any
            refine TA_done (by kernel_rfl) ?_
            exact TQ_end0 Try.results72 (fun w' hs => ⟨⟨_, rfl⟩, rfl, hs.sub (List.sublist_cons_self _ _)⟩)
        · change TL _ _ _ _ _ _ _ _ _ _ _
          refine TL_load1 rfl rfl (by repeat (first | exact List.Mem.head _ | apply List.Mem.tail | apply List.mem_append_right)) rfl ?_; apply TL_nil; apply TQ_any
          refine TA_stepL [1] (by kernel_rfl) rfl ⟨?_, trivial⟩
          change TL _ _ _ _ _ _ _ _ _ _ _
          refine TL_load1 rfl rfl (by repeat (first | exact List.Mem.head _ | apply List.Mem.tail | apply List.mem_append_right)) rfl ?_; apply TL_nil; apply TQ_any
          refine TA_stepL [5] (by kernel_rfl) rfl ⟨?_, trivial⟩
          change TL _ _ _ _ _ _ _ _ _ _ _
          refine TL_store rfl rfl rfl rfl rfl (by repeat (first | exact Upd.head | apply Upd.tail | apply Upd.right)) rfl ?_; apply TL_nil; apply TQ_any
          refine TA_stepL [6] (by kernel_rfl) rfl ⟨?_, trivial⟩
          change TL _ _ _ _ _ _ _ _ _ _ _
          refine TL_store rfl rfl rfl rfl rfl (by repeat (first | exact Upd.head | apply Upd.tail | apply Upd.right)) rfl ?_; apply TL_nil; apply TQ_any
          refine TA_done (by kernel_rfl) ?_
          exact TQ_end0 Try.results72 (fun w' hs => ⟨⟨_, rfl⟩, rfl, hs.sub (List.sublist_cons_self _ _)⟩)
      · change TL _ _ _ _ _ _ _ _ _ _ _
        refine TL_load1 rfl rfl (by repeat (first | exact List.Mem.head _ | apply List.Mem.tail | apply List.mem_append_right)) rfl ?_; apply TL_nil; apply TQ_any
        refine TA_stepL [0] (by kernel_rfl) rfl ⟨?_, trivial⟩
        change TL _ _ _ _ _ _ _ _ _ _ _
        refine TL_fieldAddr rfl rfl ?_; apply TL_nil; apply TQ_any
        refine TA_stepL [1] (by kernel_rfl) rfl ⟨?_, trivial⟩
        change TL _ _ _ _ _ _ _ _ _ _ _
        refine TL_load1 rfl rfl (by repeat (first | exact List.Mem.head _ | apply List.Mem.tail | apply List.mem_append_right)) rfl ?_; apply TL_nil; apply TQ_any
        refine TA_stepL [5] (by kernel_rfl) rfl ⟨?_, trivial⟩
        change TL _ _ _ _ _ _ _ _ _ _ _
        refine TL_store rfl rfl rfl rfl rfl (by repeat (first | exact Upd.head | apply Upd.tail | apply Upd.right)) rfl ?_; apply TL_nil; apply TQ_any
        refine TA_stepL [6] (by kernel_rfl) rfl ⟨?_, trivial⟩
        change TL _ _ _ _ _ _ _ _ _ _ _
        refine TL_store rfl rfl rfl rfl rfl (by repeat (first | exact Upd.head | apply Upd.tail | apply Upd.right)) rfl ?_; apply TL_nil; apply TQ_any
        refine TA_done (by kernel_rfl) ?_
        exact TQ_end0 Try.results72 (fun w' hs => ⟨⟨_, rfl⟩, rfl, hs.sub (List.sublist_cons_self _ _)⟩)
end Go.Proofs.Ytccgplomnjpniaa
