/- Walks: the examples that the statements over deeds and channels begin with. -/
import Derived.Test.YtkpkebpofpcmaaaGreatDoorEngR
import Derived.Test.YtkpkebpofpcmaaaGreatDoorS8
import Derived.Test.YtkpkebpofpcmaaaGreatDoorV4
import Derived.Test.YtkpkebpofpcmaaaGreatDoorR1
namespace Go.Proofs.YtkpkebpofpcmaaaGreatDoor
open Go Go.Eng Go.RowKit Go.Proofs
set_option maxHeartbeats 4000000
set_option maxRecDepth 10000
attribute [local irreducible] TL TC TQ

def haL : List Ho := [⟨1, (0, 720)⟩, ⟨2, (720, 1440)⟩]
def haR (b : Nat) : Ro := ⟨1, haL, some ⟨b, 0, none⟩, 2⟩
theorem c60 (w : World) : Calls Tryz.prog 60 #[] w (RetP w.heap.size w (fun b : Nat => .agg (encRo (haR b)).toArray) (fun b => [(b, .cells (haL.flatMap encHo) 40)]) (fun _ => True)) := by
  refine enter (args := []) Tryz.func60 rfl Tryz.ntmps60 rfl (SH.refl _) ?_
  repeat' (first | refine rn ?_ | (refine zb ?_; intro _ _) | (refine za ?_; intro _ _) | (refine zs ?_; intro _ _))
  rename_i b0 _ b5 _
  exact TQ_ret1 Tryz.results60 (RV.celln rfl mm (by rfl)) (fun w' hs => ⟨b5, trivial, rfl, hs.sub sl⟩)
def ckH (b : Nat) : Ck := ⟨[(700, 710)], [], (0, 0), (1000, 1000), some ⟨b, 0, none⟩, 1, none, 0⟩
def tgH : Tg := ⟨1, 0, 0, (0, 0)⟩
def ddH : Dd := ⟨0, 1, 4, 1, 3, (700, 720), 9, [], none, 0⟩
theorem allH (b : Nat) : allR (ckH b) 3 [tgH] = ((700, 710), 0) := by kernel_rfl
theorem atH (b : Nat) : atM (uM (haR b) [ddH] 3) 3 705 = (1, 3, 0) := by kernel_rfl
def tuH : List Sp := [(0, 720), (720, 1440)]
theorem onH : firstO tuH (700, 710) = 0 := by kernel_rfl
theorem suH : sureO tuH (700, 710) 1 = 0 := by unfold sureO; rw [onH]; decide
theorem c21 (w : World) (hv : Nv w) : Calls Tryz.prog 21 #[] w (RetV w (.bool true)) := by
  refine enter (args := []) Tryz.func21 rfl Tryz.ntmps21 rfl (SH.refl _) ?_
  repeat' (first | refine rn ?_ | (refine zb ?_; intro _ _) | (refine za ?_; intro _ _) | (refine zs ?_; intro _ _))
  refine TL_callV rfl rfl rfl (fun w h => c30 700 710 w) ?_
  repeat' (first | refine rn ?_ | (refine zb ?_; intro _ _) | (refine za ?_; intro _ _) | (refine zs ?_; intro _ _))
  refine TL_callV rfl rfl rfl (fun w h => c30 1000 1000 w) ?_
  repeat' (first | refine rn ?_ | (refine zb ?_; intro _ _) | (refine za ?_; intro _ _) | (refine zs ?_; intro _ _))
  rename_i bm _ bk _ bt _
  refine TL_callV rfl rfl rfl (fun w h => c23 (ckH bm) 3 [tgH] (some ⟨bt, 0, none⟩) 1 (by decide) w (Sl.of_blk (enc := encTg) (k := 5) (l := [tgH]) h (List.Mem.head _) (fun _ _ => rfl) ⟨[], rfl⟩) ⟨Sl.of_blk (enc := encSp) (k := 2) (l := [(700, 710)]) h mm (fun _ _ => rfl) ⟨[], rfl⟩, Sl.nil _ _ _ _, (by decide : (1 : Nat) ≤ 4611686018427387904), (by decide : (0 : Nat) ≤ 4611686018427387904)⟩ (hv.mono h.below)) ?_
  rw [allH]
  repeat' (first | refine rn ?_ | (refine zb ?_; intro _ _) | (refine za ?_; intro _ _) | (refine zs ?_; intro _ _))
  rename_i b2 _ bu _
  refine TL_callN rfl rfl rfl (fun w h => c25 tuH (some ⟨bu, 0, none⟩) 2 (700, 710) (by decide) (by decide) ?_ (by decide) w (Sl.of_blk (enc := encSp) (k := 2) (l := tuH) h (List.Mem.head _) (fun _ _ => rfl) ⟨[], rfl⟩)) ?_
  · intro j x hx
    match j, hx with
    | 0, hx => simp [tuH] at hx; subst hx; decide
    | 1, hx => simp [tuH] at hx; subst hx; decide
  rintro ⟨n, mo, mc, mob⟩ ⟨hrow, hle, hnb, hbrk⟩
  dsimp only at hrow hle hnb hbrk ⊢
  rw [onH] at hle hnb hbrk
  obtain rfl : n = 1 := by
    have h2 : tuH.length = 2 := rfl
    rcases Nat.lt_trichotomy n 1 with h | h | h
    · have : n = 0 := by omega
      subst this
      exact absurd (hbrk (0, 720) rfl) (by unfold brkO; decide)
    · exact h
    · exact absurd (show brkO (700, 710) (720, 1440) by unfold brkO; decide) (hnb 1 (720, 1440) h rfl)
  rw [suH]
  repeat' (first | refine rn ?_ | (refine zb ?_; intro _ _) | (refine za ?_; intro _ _) | (refine zs ?_; intro _ _))
  refine TL_callN rfl rfl rfl (fun w h => c60 w) ?_
  rintro bh _
  repeat' (first | refine rn ?_ | (refine zb ?_; intro _ _) | (refine za ?_; intro _ _) | (refine zs ?_; intro _ _))
  rename_i bd _
  refine TL_callV rfl rfl rfl (fun w h => c13g (haR bh) [ddH] (some ⟨bd, 0, none⟩) 1 3 705 w (Sl.of_blk (enc := encHo) (k := 3) (l := haL) h mm (fun _ _ => rfl) ⟨[], by simp⟩) (by decide : (2 : Nat) ≤ 4611686018427387904) ⟨Sl.of_blk (enc := encDd) (k := 9) (l := [ddH]) h (List.Mem.head _) (fun _ _ => rfl) ⟨[], rfl⟩, fun x hx => by rw [List.mem_singleton.1 hx]; exact Sl.nil _ _ _ _, by unfold Small; decide, fun x hx => by rw [List.mem_singleton.1 hx]; unfold Small; decide⟩) ?_
  rw [atH]
  repeat' (first | refine rn ?_ | (refine zb ?_; intro _ _) | (refine za ?_; intro _ _) | (refine zs ?_; intro _ _))
  have hm0 : mayO tuH (700, 710) 1 = [0] := by unfold mayO; rw [onH]; rfl
  rw [hm0] at hrow
  apply TC_draw 41; kernel_rfl; exact Tryz.mixed
  · (refine' PG.val rfl rfl (by intro _X; refine TL_callV rfl rfl rfl (fun w h => c61 w) ?_; exact qe) ?_; rotate_left)
    (refine' pv ?_; rotate_left)
    iterate 2 (refine' pg ?_; rotate_left)
    iterate 2 (refine' pv ?_; rotate_left)
    (refine' pg ?_; rotate_left)
    (refine' PG.val rfl rfl (by intro _X; (refine TL_guard_yes rfl rfl rfl ?_); refine TL_callV rfl rfl rfl (fun w h => c30 700 710 w) ?_; exact qe) ?_; rotate_left)
    (refine' pg ?_; rotate_left)
    iterate 2 (refine' pv ?_; rotate_left)
    iterate 2 (refine' pg ?_; rotate_left)
    iterate 2 (refine' pv ?_; rotate_left)
    iterate 3 (refine' pg ?_; rotate_left)
    iterate 2 (refine' pv ?_; rotate_left)
    (refine' pg ?_; rotate_left)
    (refine' PG.val rfl rfl (by intro _X; (refine TL_guard_yes rfl rfl rfl ?_); refine TL_index 0 rfl rfl rfl (fun w h => hrow.sl h (fun p hp => by repeat (first | exact hp | exact List.mem_append_left _ hp | apply List.mem_cons_of_mem | apply List.mem_append_right))) rfl (by decide) (by decide) ?_; exact qe) ?_; rotate_left)
    (refine' PG.val rfl rfl (by intro _X; (refine TL_guard_yes rfl rfl rfl ?_); refine TL_load_el1 (u := (0 : Int)) rfl rfl (fun w h => hrow.sl h (fun p hp => by repeat (first | exact hp | exact List.mem_append_left _ hp | apply List.mem_cons_of_mem | apply List.mem_append_right))) rfl rfl ?_; exact qe) ?_; rotate_left)
    (refine' pg ?_; rotate_left)
    iterate 2 (refine' pv ?_; rotate_left)
    iterate 2 (refine' pg ?_; rotate_left)
    iterate 2 (refine' pv ?_; rotate_left)
    iterate 2 (refine' pg ?_; rotate_left)
    iterate 2 (refine' pv ?_; rotate_left)
    iterate 2 (refine' pg ?_; rotate_left)
    iterate 2 (refine' pv ?_; rotate_left)
    iterate 2 (refine' pg ?_; rotate_left)
    (refine' pv ?_; rotate_left)
    exact PG.nil
  change TL _ _ _ _ _ _ _ _ _ _ _
  repeat' (first | refine rn ?_ | (refine zb ?_; intro _ _) | (refine za ?_; intro _ _) | (refine zs ?_; intro _ _))
  exact TQ_ret1 Tryz.results21 (RV.tmp rfl) (fun w' hs => ⟨rfl, hs.below⟩)
end Go.Proofs.YtkpkebpofpcmaaaGreatDoor
