/- Walks of the package deed: At. -/
import Derived.Test.YtkpkebpofpcmaaaGreatDoorD16
namespace Go.Proofs.YtkpkebpofpcmaaaGreatDoor
open Go Go.Eng Go.RowKit Go.Proofs
set_option maxHeartbeats 4000000
set_option maxRecDepth 10000
attribute [local irreducible] TL TC TQ

def atM (u : Int × PD) (day m : Int) : Int × Int × Int := if u.1 ≠ 0 then (0, 0, u.1) else match u.2.1.find? (hasB m) with
  | none => (0, 0, 2)
  | some p => (p.owner, userP p day, 0)
theorem find_fidx {α : Type} (p : α → Bool) (l : List α) : (fidx p l = -1 ∧ l.find? p = none) ∨ ∃ (i : Nat) (x : α), fidx p l = i ∧ l[i]? = some x ∧ l.find? p = some x := by
  induction l with
  | nil => exact .inl ⟨rfl, rfl⟩
  | cons a l ih =>
    unfold fidx
    by_cases ha : p a = true
    · rw [if_pos ha]; exact .inr ⟨0, a, rfl, rfl, by simp [ha]⟩
    · rw [if_neg ha]
      rcases ih with ⟨h1, h2⟩ | ⟨i, x, h1, h2, h3⟩
      · rw [if_pos (by omega)]; exact .inl ⟨rfl, by simp [ha, h2]⟩
      · rw [if_neg (by omega)]; exact .inr ⟨i + 1, x, by omega, by simpa using h2, by simp [ha, h3]⟩
theorem c13 (u : Int × PD) (r : Ro) (l : List Dd) (ao : Option Addr) (c : Nat) (day m : Int) (w : World)
    (hU : ∀ w', Below w.heap.size w w' → Calls Tryz.prog 40 #[.agg (encRo r).toArray, .slice ao l.length c, .int .i64 day] w' (RetP w'.heap.size w' (utV u.1) (utH r u.2.1.length) (utP u.1 u.2))) :
    Calls Tryz.prog 13 #[.agg (encRo r).toArray, .slice ao l.length c, .int .i64 day, .int .i64 m] w (RetV w (.tuple #[.int .i64 (atM u day m).1, .int .i64 (atM u day m).2.1, .int .i64 (atM u day m).2.2])) := by
  refine enter (args := [.agg (encRo r).toArray, .slice ao l.length c, .int .i64 day, .int .i64 m]) Tryz.func13 rfl Tryz.ntmps13 rfl (SH.refl _) ?_
  repeat' (first | refine rn ?_ | (refine zb ?_; intro _ _) | (refine za ?_; intro _ _) | (refine zs ?_; intro _ _))
  rename_i b4 _ b7 _
  refine TL_callN rfl rfl rfl (fun w h => hU w h.below) ?_
  rintro (_ | ⟨b, bm, x⟩) hq
  · have ea : atM u day m = (0, 0, u.1) := by unfold atM; exact if_pos (show u.1 ≠ 0 from hq)
    rw [ea]
    dsimp only [utV, utH]
    repeat' (first | refine rn ?_ | (refine zb ?_; intro _ _) | (refine za ?_; intro _ _) | (refine zs ?_; intro _ _))
    refine TC_cond_dec rfl (fun g1 => ?_) (fun g1 => absurd hq g1)
    repeat' (first | refine rn ?_ | (refine zb ?_; intro _ _) | (refine za ?_; intro _ _) | (refine zs ?_; intro _ _))
    exact TQ_ret3 Tryz.results13 (RV.tmp rfl) (RV.tmp rfl) (RV.tmp rfl) (fun w' hs => ⟨rfl, hs.below⟩)
  · obtain ⟨h0, hbk, hsl⟩ := hq
    have hsm := row_small hbk.row
    have hsmall : u.2.1.length ≤ 9223372036854775807 := row_small hbk.row
    dsimp only [utV, utH]
    repeat' (first | refine rn ?_ | (refine zb ?_; intro _ _) | (refine za ?_; intro _ _) | (refine zs ?_; intro _ _) | (refine nk ?_))
    refine TL_callV rfl rfl rfl (fun w h => c41 (hasB m) 42 [.pointer (some ⟨b7, 0, none⟩)] u.2.1 x.ao x.cap ?_ w (hbk.row.sl h (fun p hp => List.mem_append_left _ (mem_bk0 hp))) (fun p _ w' hb => c42 p m b7 w' ((Sl.of_blk (enc := encI) (k := 1) (l := [m]) h (List.mem_append_right _ (List.Mem.head _)) (fun _ _ => rfl) ⟨[], rfl⟩).mono hb))) ?_
    · unfold Small; omega
    rcases find_fidx (hasB m) u.2.1 with ⟨h1, h2⟩ | ⟨i, p, h1, h2, h3⟩
    · have ea : atM u day m = (0, 0, 2) := by unfold atM; rw [if_neg (by rw [h0]; simp), h2]
      rw [h1, ea]
      repeat' (first | refine rn ?_ | (refine zb ?_; intro _ _) | (refine za ?_; intro _ _) | (refine zs ?_; intro _ _))
      exact TQ_ret3 Tryz.results13 (RV.tmp rfl) (RV.tmp rfl) (RV.tmp rfl) (fun w' hs => ⟨rfl, hs.below⟩)
    · have ea : atM u day m = (p.owner, userP p day, 0) := by unfold atM; rw [if_neg (by rw [h0]; simp), h3]
      have hlt : i < u.2.1.length := (List.getElem?_eq_some_iff.1 h2).1
      have hne : u.2.1 ≠ [] := fun e => by rw [e] at h2; simp at h2
      rw [h1, ea]
      repeat' (first | refine rn ?_ | (refine zb ?_; intro _ _) | (refine za ?_; intro _ _) | (refine zs ?_; intro _ _))
      apply TC_draw 17; kernel_rfl; exact Tryz.mixed
      · (refine' pv ?_; rotate_left)
        (refine' PG.val rfl rfl (by intro _X; refine TL_nilCheck rfl rfl ?_; exact qe) ?_; rotate_left)
        iterate 3 (refine' pv ?_; rotate_left)
        (refine' PG.val rfl rfl (by intro _X; refine TL_index i rfl rfl rfl (fun w h => hbk.row.sl h (fun p hp => by repeat (first | exact List.mem_append_left _ (mem_bk0 hp) | apply List.mem_append_right))) rfl hlt (Nat.le_refl _) ?_; exact qe) ?_; rotate_left)
        (refine' PG.val rfl rfl (by intro _X; refine TL_fieldAddr_el rfl rfl (fun w h => hbk.row.sl h (fun p hp => by repeat (first | exact List.mem_append_left _ (mem_bk0 hp) | apply List.mem_append_right))) hne ?_; exact qe) ?_; rotate_left)
        (refine' PG.val rfl rfl (by intro _X; refine TL_load_el1 (u := p) rfl rfl (fun w h => hbk.row.sl h (fun p hp => by repeat (first | exact List.mem_append_left _ (mem_bk0 hp) | apply List.mem_append_right))) h2 rfl ?_; exact qe) ?_; rotate_left)
        (refine' pv ?_; rotate_left)
        (refine' PG.val rfl rfl (by intro _X; refine TL_nilCheck rfl rfl ?_; exact qe) ?_; rotate_left)
        iterate 3 (refine' pv ?_; rotate_left)
        (refine' PG.val rfl rfl (by intro _X; refine TL_index i rfl rfl rfl (fun w h => hbk.row.sl h (fun p hp => by repeat (first | exact List.mem_append_left _ (mem_bk0 hp) | apply List.mem_append_right))) rfl hlt (Nat.le_refl _) ?_; exact qe) ?_; rotate_left)
        (refine' PG.val rfl rfl (by intro _X; refine TL_load_eln (u := p) rfl rfl (fun w h => hbk.row.sl h (fun p hp => by repeat (first | exact List.mem_append_left _ (mem_bk0 hp) | apply List.mem_append_right))) h2 rfl ?_; exact qe) ?_; rotate_left)
        (refine' pv ?_; rotate_left)
        (refine' PG.val rfl rfl (by intro _X; refine TL_callV rfl rfl rfl (fun w h => c43 p day w) ?_; exact qe) ?_; rotate_left)
        exact PG.nil
      change TL _ _ _ _ _ _ _ _ _ _ _
      repeat' (first | refine rn ?_ | (refine zb ?_; intro _ _) | (refine za ?_; intro _ _) | (refine zs ?_; intro _ _))
      exact TQ_ret3 Tryz.results13 (RV.tmp rfl) (RV.tmp rfl) (RV.tmp rfl) (fun w' hs => ⟨rfl, hs.below⟩)
end Go.Proofs.YtkpkebpofpcmaaaGreatDoor
