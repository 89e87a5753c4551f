/- Walks: the examples that the statements over deeds begin with. -/
import Derived.Test.YtkpkebpofpcmaaaGreatDoorD19
namespace Go.Proofs.YtkpkebpofpcmaaaGreatDoor
open Go Go.Eng Go.RowKit Go.Proofs
set_option maxHeartbeats 4000000
set_option maxRecDepth 10000
attribute [local irreducible] TL TC TQ

def bids04 : List Bd := [⟨2, (0, 720), 5⟩, ⟨3, (700, 800), 4⟩]
def ro04 (b : Nat) : Ro := ⟨1, [⟨1, (0, 1440)⟩], some ⟨b, 0, none⟩, 1⟩
def dd04 : Dd := ⟨0, 0, 4, 1, 2, (0, 720), 7, [], none, 0⟩
theorem at04 (b : Nat) : atM (untilM id doR (ro04 b) [dd04] 6) 6 719 = (1, 2, 0) := by kernel_rfl
theorem val04 (b : Nat) : validB (ro04 b) dd04 = true := by kernel_rfl
theorem on04 : firstO [((0 : Int), (720 : Int))] (719, 719) = 0 := by kernel_rfl
theorem c7 (w : World) : Calls Tryz.prog 7 #[] w (RetV w (.bool true)) := by
  refine enter (args := []) Tryz.func7 rfl Tryz.ntmps7 rfl (SH.refl _) ?_
  repeat' (first | refine rn ?_ | (refine zb ?_; intro _ _) | (refine za ?_; intro _ _) | (refine zs ?_; intro _ _))
  rename_i b17 _
  refine TL_callN rfl rfl rfl (fun w h => c31 (0, 1440) bids04 (some ⟨b17, 0, none⟩) 2 (by decide) rfl (by decide) rfl ⟨2, (0, 720), 5⟩ ⟨3, (700, 800), 4⟩ rfl rfl (by decide) (by decide) w (Sl.of_blk (enc := encBd) (k := 4) (l := bids04) h (List.Mem.head _) (fun _ _ => rfl) ⟨[], rfl⟩)) ?_
  rintro ⟨so, sc, ob⟩ hwon
  dsimp only at hwon ⊢
  repeat' (first | refine rn ?_ | (refine zb ?_; intro _ _) | (refine za ?_; intro _ _) | (refine zs ?_; intro _ _))
  rename_i b24 _ b4 _ b30 _
  refine TL_callV rfl rfl rfl (fun w h => c13r (ro04 b24) [dd04] (some ⟨b30, 0, none⟩) 1 0 6 719 (by decide) (by simp) (by decide) (by decide) (fun _ x hx => by rw [List.mem_singleton.1 hx]; exact val04 b24) w (Sl.of_blk (enc := encHo) (k := 3) (l := [⟨1, (0, 1440)⟩]) h mm (fun _ _ => rfl) ⟨[], rfl⟩) (by show (1 : Nat) ≤ 4611686018427387904; decide) ⟨Sl.of_blk (enc := encDd) (k := 9) (l := [dd04]) h (List.Mem.head _) (fun _ _ => rfl) ⟨[], rfl⟩, fun x hx => by rw [List.mem_singleton.1 hx]; exact Sl.nil _ _ _ _, by unfold Small; decide, fun x hx => by rw [List.mem_singleton.1 hx]; unfold Small; decide⟩) ?_
  rw [at04]
  repeat' (first | refine rn ?_ | (refine zb ?_; intro _ _) | (refine za ?_; intro _ _) | (refine zs ?_; intro _ _))
  rename_i b37 _
  refine TL_callV rfl rfl rfl (fun w h => c32 719 719 w) ?_
  refine TL_callN rfl rfl rfl (fun w h => c25 [(0, 720)] (some ⟨b37, 0, none⟩) 1 (719, 719) (by decide) (by decide) ?_ (by decide) w (Sl.of_blk (enc := encSp) (k := 2) (l := [(0, 720)]) h (List.Mem.head _) (fun _ _ => rfl) ⟨[], rfl⟩)) ?_
  · intro j x hx
    cases j with
    | zero => simp at hx; subst hx; decide
    | succ j => simp at hx
  rintro ⟨n, mo, mc, mob⟩ ⟨hrow, hle, _, hbrk⟩
  dsimp only at hrow hle hbrk ⊢
  rw [on04] at hle hbrk
  obtain rfl : n = 1 := by
    have : n = 0 ∨ n = 1 := by simp at hle; omega
    rcases this with rfl | h
    · exact absurd (hbrk (0, 720) rfl) (by unfold brkO; decide)
    · exact h
  repeat' (first | refine rn ?_ | (refine zb ?_; intro _ _) | (refine za ?_; intro _ _) | (refine zs ?_; intro _ _))
  refine TL_callV rfl rfl rfl (fun w h => c33 [0] [0] so _ sc 1 (by unfold Small; decide) (by unfold Small; decide) w (hwon.sl h (fun p hp => by repeat (first | exact List.mem_append_left _ hp | apply List.mem_append_right | apply List.mem_cons_of_mem))) (Sl.of_blk (enc := encI) (k := 1) (l := [0]) h (List.Mem.head _) (fun _ _ => rfl) ⟨[], rfl⟩)) ?_
  repeat' (first | refine rn ?_ | (refine zb ?_; intro _ _) | (refine za ?_; intro _ _) | (refine zs ?_; intro _ _))
  refine TL_callV rfl rfl rfl (fun w h => c33 [0] [0] mo _ mc 1 (by unfold Small; decide) (by unfold Small; decide) w (by have h4 := hrow.sl h (fun p hp => by repeat (first | exact List.mem_append_left _ hp | apply List.mem_append_right | apply List.mem_cons_of_mem)); unfold mayO at h4; rw [on04] at h4; exact h4) (Sl.of_blk (enc := encI) (k := 1) (l := [0]) h (List.Mem.head _) (fun _ _ => rfl) ⟨[], rfl⟩)) ?_
  repeat' (first | refine rn ?_ | (refine zb ?_; intro _ _) | (refine za ?_; intro _ _) | (refine zs ?_; intro _ _))
  exact TQ_ret1 Tryz.results7 (RV.tmp rfl) (fun w' hs => ⟨rfl, hs.below⟩)
end Go.Proofs.YtkpkebpofpcmaaaGreatDoor
