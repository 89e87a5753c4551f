/- The engine, short forms: one step, a run of steps, the operations of a drawn region. The tactics stand here once. -/
import Derived.Test.YtccgplomnjpniaaEng10
namespace Go.Eng
open Go Go.RowKit
set_option linter.unusedVariables false
/-- What is left, held (so that no tactic takes it for a fact). -/
structure Hd (A : Prop) : Prop where
  h : A
/-- One plain operation, or one step of control. -/
theorem r1 {A B : Prop} (k : A) (h : Hd A → B := by
  intro _K
  first
    | (apply TL_move; exact rfl; exact rfl)
    | (apply TL_assign; exact rfl; exact rfl)
    | (apply TL_guard_yes; exact rfl; exact rfl; exact rfl)
    | (apply TL_guard_no; exact rfl; exact rfl; exact rfl; exact rfl)
    | (apply TL_guard_no_none; exact rfl; exact rfl; exact rfl)
    | (apply TL_guard_un; exact rfl; exact rfl; exact rfl)
    | (apply TL_fieldAddr; exact rfl; exact rfl)
    | (apply TL_load1; exact rfl; exact rfl; (repeat (first | exact List.Mem.head _ | apply List.Mem.tail | apply List.mem_append_right)); exact rfl)
    | (apply TL_loadn; exact rfl; exact rfl; (repeat (first | exact List.Mem.head _ | apply List.Mem.tail | apply List.mem_append_right)); exact rfl)
    | (apply TL_extract; exact rfl; exact rfl; exact rfl)
    | (apply TL_pick; exact rfl; exact rfl; exact rfl)
    | (apply TL_lss; exact rfl; exact rfl; exact rfl)
    | (apply TL_leq; exact rfl; exact rfl; exact rfl)
    | (apply TL_gtr; exact rfl; exact rfl; exact rfl)
    | (apply TL_geq; exact rfl; exact rfl; exact rfl)
    | (apply TL_eql; exact rfl; exact rfl; exact rfl)
    | (apply TL_neq; exact rfl; exact rfl; exact rfl)
    | (apply TL_eqlS; exact rfl; exact rfl; exact rfl; exact rfl; exact rfl; exact rfl; exact rfl; exact rfl; exact rfl)
    | (apply TL_neqS; exact rfl; exact rfl; exact rfl; exact rfl; exact rfl; exact rfl; exact rfl; exact rfl; exact rfl)
    | (apply TL_not_dec; exact rfl; exact rfl)
    | (apply TL_not; exact rfl; exact rfl)
    | (apply TL_add; exact rfl; exact rfl; exact rfl; (first | omega | (dsimp only; omega)))
    | (apply TL_sub; exact rfl; exact rfl; exact rfl; (first | omega | (dsimp only; omega)))
    | (apply TL_mul; exact rfl; exact rfl; exact rfl; (first | omega | (dsimp only; omega)))
    | (apply TL_neg; exact rfl; exact rfl; (first | omega | (dsimp only; omega)))
    | (apply TL_quo_nn; exact rfl; exact rfl; exact rfl; (first | omega | (dsimp only; omega)); (first | omega | (dsimp only; omega)))
    | (apply TL_rem_nn; exact rfl; exact rfl; exact rfl; (first | omega | (dsimp only; omega)); (first | omega | (dsimp only; omega)))
    | (apply TL_min; exact rfl; exact rfl; exact rfl)
    | (apply TL_max; exact rfl; exact rfl; exact rfl)
    | (apply TL_len; exact rfl; exact rfl)
    | (apply TL_convert; exact rfl; exact rfl)
    | (apply TL_build; exact rfl; exact rfl; exact rfl)
    | (apply TL_buildA; exact rfl; exact rfl; exact rfl)
    | (apply TL_store; exact rfl; exact rfl; exact rfl; exact rfl; exact rfl; (repeat (first | exact Upd.head | apply Upd.tail | apply Upd.right)); exact rfl)
    | (apply TL_makeFunc; exact rfl; exact rfl; exact rfl)
    | (apply TC_seq)
    | (apply TC_region)
    | (apply TL_nil)
    | (apply TQ_then)
    | (apply TC_skip)
    | (apply TC_exit)
    | (apply TC_block)
    | (apply TC_label)
    | (apply TQ_then_exit)
    | (apply TQ_block_exit; exact rfl)
    | (apply TQ_block_exit_ne; exact rfl)
    | (apply TQ_block)
    | (apply TQ_then_ret)
    | (apply TQ_block_ret)
    | (apply TC_ret)
    | (apply TC_cond_t; exact rfl; exact rfl)
    | (apply TC_cond_f; exact rfl; exact rfl)
  exact _K.h) : B := h ⟨k⟩
/-- As many as go. -/
theorem rn {A B : Prop} (k : A) (h : Hd A → B := by
  intro _K
  refine r1 ?_
  repeat refine r1 ?_
  exact _K.h) : B := h ⟨k⟩
theorem mm {p : Prop} (h : p := by repeat (first | exact List.Mem.head _ | apply List.Mem.tail | apply List.mem_append_right)) : p := h
theorem up {p : Prop} (h : p := by repeat (first | exact Upd.head | apply Upd.tail | apply Upd.right)) : p := h
theorem sb {p : Prop} (h : p := by repeat (first | exact Sub.nil _ | refine Sub.cons (by rfl) ?_)) : p := h
theorem sl {p : Prop} (h : p := by repeat (first | exact List.Sublist.refl _ | apply List.Sublist.cons_cons | apply List.Sublist.cons | apply List.nil_sublist)) : p := h
section
variable {r : Option Nat} {P : Program} {Q : Exit → Act → World → Prop} {N : Nat} {D : List Deferred} {B : Nat} {w0 : World} {L : Env} {H : Hp} {ops : Array Oper} {rest : List Oper}
theorem pv {o : Oper} {E : Env} {Fs : List Fact} {d : Nat} {c : Value} {ps : List (Nat × Post)} (k : PG r P N D B w0 H ops rest ((d, c) :: E) Fs ps) (h1 : o.dst = some d := by exact rfl) (h2 : Nat.blt d N = true := by exact rfl)
    (h3 : AllF (fltF ops o Fs) (fun EF G => ∀ X : Hp, TL r P (QV D B w0 d c (G ++ (X ++ H))) N D B w0 (EF ++ E) (G ++ (X ++ H)) ops [o]) := by
      intro _X
      refine r1 ?_
      apply TL_nil
      exact TQ_QV rfl (fun _ h => h)) : PG r P N D B w0 H ops (o :: rest) E Fs ((d, .val c) :: ps) := PG.val h1 h2 h3 k
/-- .. behind a guard. -/
theorem pg {o : Oper} {E : Env} {Fs : List Fact} {d : Nat} {c : Value} {ps : List (Nat × Post)} (k : PG r P N D B w0 H ops rest ((d, c) :: E) Fs ps) (h1 : o.dst = some d := by exact rfl) (h2 : Nat.blt d N = true := by exact rfl)
    (h3 : AllF (fltF ops o Fs) (fun EF G => ∀ X : Hp, TL r P (QV D B w0 d c (G ++ (X ++ H))) N D B w0 (EF ++ E) (G ++ (X ++ H)) ops [o]) := by
      intro _X
      refine r1 ?_
      refine r1 ?_
      apply TL_nil
      exact TQ_QV rfl (fun _ h => h)) : PG r P N D B w0 H ops (o :: rest) E Fs ((d, .val c) :: ps) := PG.val h1 h2 h3 k
/-- The end of one operation. -/
theorem qe {d : Nat} {c : Value} {H1 : Hp} (h1 : lk L d = some c := by exact rfl) : TL r P (QV D B w0 d c H1) N D B w0 L H1 ops [] := TL_nil (TQ_QV h1 (fun _ h => h))
end
end Go.Eng
