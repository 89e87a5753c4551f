/- The engine: loops walked round by round. Walks of the package level, at the example of a gallery of one reach. -/
import Derived.Test.YtkpkebpofpcmaaaGreatDoorEngR
import Derived.Test.YtkpkebpofpcmaaaGreatDoorH1
import Derived.Test.YtkpkebpofpcmaaaGreatDoorEngX
import Derived.LoopNIn
namespace Go.Eng
open Go Go.RowKit
/-- What is left of a loop of so many rounds. -/
def RN (r : Option Nat) (P : Program) (Q : Exit → Act → World → Prop) (c : Code) (m : Nat) : Act → World → Prop := Code.roundsIn (FW r) 0 P c Q m
section
variable {r : Option Nat} {P : Program} {Q : Exit → Act → World → Prop} {N : Nat} {D : List Deferred} {B : Nat} {w0 : World} {L : Env} {H : Hp} {ops : Array Oper} {rest : List Oper}
theorem TC_loopN {c : Code} (m : Nat) (h : TC r P (Exit.then (RN r P Q c m) Q) N D B w0 L H c) : TC r P Q N D B w0 L H (.loop c) := fun a w hf hs => wpIn_loop_rounds (m + 1) (h a w hf hs)
theorem TQ_roundN {c : Code} {m : Nat} (h : TC r P (Exit.then (RN r P Q c m) Q) N D B w0 L H c) : TQ (Exit.then (RN r P Q c (m + 1)) Q) N D B w0 L H .normal := h
end
end Go.Eng
namespace Go.Proofs.YtkpkebpofpcmaaaGreatDoor
open Go Go.Eng Go.RowKit Go.Proofs
set_option maxHeartbeats 4000000
set_option maxRecDepth 10000
attribute [local irreducible] TL TC TQ RN

instance ty301 : TyP Tryz.prog 301 441 true (List.replicate 441 (.int .i64 0)) := TyP.mk' (v := .agg (Array.replicate 441 (.int .i64 0))) (by kernel_rfl) (by kernel_rfl) Tryz.underlying301 rfl
theorem c162 (x lo hi : Int) (b1 b2 : Nat) (w : World) (h1 : Sl w 1 encI (some ⟨b1, 0, none⟩) [lo]) (h2 : Sl w 1 encI (some ⟨b2, 0, none⟩) [hi]) :
    Calls Tryz.prog 162 #[.int .i64 x, .pointer (some ⟨b1, 0, none⟩), .pointer (some ⟨b2, 0, none⟩)] w (RetV w (.bool (decide (¬ In x lo hi)))) := by
  refine enter (args := [.int .i64 x, .pointer (some ⟨b1, 0, none⟩), .pointer (some ⟨b2, 0, none⟩)]) Tryz.func162 rfl Tryz.ntmps162 rfl (SH.refl _) ?_
  repeat' (first | refine rn ?_ | (refine zb ?_; intro _ _) | (refine za ?_; intro _ _) | (refine zs ?_; intro _ _))
  refine TL_load_el1 (i := 0) (o := 0) rfl rfl (fun w h => h.sl h1) rfl rfl ?_
  repeat' (first | refine rn ?_ | (refine zb ?_; intro _ _) | (refine za ?_; intro _ _) | (refine zs ?_; intro _ _))
  refine TL_gsplit_dec rfl rfl (fun g1 => ?_) (fun g1 => ?_)
  · repeat' (first | refine rn ?_ | (refine zb ?_; intro _ _) | (refine za ?_; intro _ _) | (refine zs ?_; intro _ _))
    exact TQ_ret1 Tryz.results162 (RV.tmp rfl) (fun w' hs => RetV.yes (fun h => by unfold In at h; omega) hs.below)
  · refine TL_guard_yes rfl rfl rfl ?_
    refine r1 ?_
    refine TL_guard_yes rfl rfl rfl ?_
    refine TL_load_el1 (i := 0) (o := 0) rfl rfl (fun w h => h.sl h2) rfl rfl ?_
    repeat' (first | refine rn ?_ | (refine zb ?_; intro _ _) | (refine za ?_; intro _ _) | (refine zs ?_; intro _ _))
    refine TQ_ret1 Tryz.results162 (RV.tmp rfl) (fun w' hs => ⟨?_, hs.below⟩)
    rw [decide_eq_decide.2]; unfold In; omega

theorem c137 (lo hi : Int) (l : List Int) (ao : Option Addr) (c : Nat) (hn : Small l.length) (w : World) (ha : Sl w 1 encI ao l) :
    Calls Tryz.prog 137 #[.int .i64 lo, .int .i64 hi, .slice ao l.length c] w (RetV w (.bool (decide (∀ x ∈ l, In x lo hi)))) := by
  refine enter (args := [.int .i64 lo, .int .i64 hi, .slice ao l.length c]) Tryz.func137 rfl Tryz.ntmps137 rfl (SH.refl _) ?_
  repeat' (first | refine rn ?_ | (refine zb ?_; intro _ _) | (refine za ?_; intro _ _) | (refine zs ?_; intro _ _))
  rename_i b3 _ b4 _
  refine TL_callV rfl rfl rfl (fun w h => c75 (fun x => decide (¬ In x lo hi)) 162 [.pointer (some ⟨b3, 0, none⟩), .pointer (some ⟨b4, 0, none⟩)] l ao c hn w (h.sl ha) (fun x _ w' hb => c162 x lo hi b3 b4 w' (Sl.of_blk (h.ext hb) mm (fun _ _ => rfl) ⟨[], rfl⟩) (Sl.of_blk (h.ext hb) mm (fun _ _ => rfl) ⟨[], rfl⟩))) ?_
  repeat' (first | refine rn ?_ | (refine zb ?_; intro _ _) | (refine za ?_; intro _ _) | (refine zs ?_; intro _ _))
  refine TQ_ret1 Tryz.results137 (RV.tmp rfl) (fun w' hs => ⟨?_, hs.below⟩)
  have : (!l.any fun x => decide (¬ In x lo hi)) = decide (∀ x ∈ l, In x lo hi) := by
    rw [Bool.eq_iff_iff]; simp
  rw [this]
theorem c198 (s : Sp) (lo hi : Int) (w : World) : Calls Tryz.prog 198 #[.agg (encSp s).toArray, .int .i64 lo, .int .i64 hi] w (RetV w (.bool (decide (Ord s lo hi)))) := by
  refine enter (args := [.agg (encSp s).toArray, .int .i64 lo, .int .i64 hi]) Tryz.func198 rfl Tryz.ntmps198 rfl (SH.refl _) ?_
  repeat' (first | refine rn ?_ | (refine zb ?_; intro _ _) | (refine za ?_; intro _ _) | (refine zs ?_; intro _ _))
  refine TL_gsplit_dec rfl rfl (fun g1 => ?_) (fun g1 => ?_)
  · repeat' (first | refine rn ?_ | (refine zb ?_; intro _ _) | (refine za ?_; intro _ _) | (refine zs ?_; intro _ _))
    refine TL_callV rfl rfl rfl (fun w h => c137 lo hi [s.1, s.2] _ 2 (by simp [Small]) w (Sl.of_blk h mm (fun y _ => rfl) ⟨[], rfl⟩)) ?_
    repeat' (first | refine rn ?_ | (refine zb ?_; intro _ _) | (refine za ?_; intro _ _) | (refine zs ?_; intro _ _))
    refine TQ_ret1 Tryz.results198 (RV.tmp rfl) (fun w' hs => ⟨?_, hs.below⟩)
    have : (∀ y ∈ [s.1, s.2], In y lo hi) ↔ Ord s lo hi := by
      simp [In, Ord]; omega
    rw [decide_eq_decide.2 this]
  · repeat' (first | refine rn ?_ | (refine zb ?_; intro _ _) | (refine za ?_; intro _ _) | (refine zs ?_; intro _ _))
    exact TQ_ret1 Tryz.results198 (RV.tmp rfl) (fun w' hs => RetV.no (fun h => g1 h.2.1) hs.below)
def init0 : Tbl := fun a b => if a = b then 0 else 20000000
def initK (i k : Nat) : Tbl := fun a b => if (a < i ∨ a = i ∧ b < k) ∧ a ≠ b then 20000000 else 0
theorem initK_zero : initK 0 0 = fun _ _ => 0 := by funext a b; unfold initK; rw [if_neg (by omega)]
theorem initK_upd {i k : Nat} (h : i ≠ k) : updT (initK i k) i k 20000000 = initK i (k + 1) := by
  funext a b
  unfold updT initK
  by_cases h1 : a = i ∧ b = k
  · rw [if_pos h1, if_pos (by omega)]
  · rw [if_neg h1]
    by_cases h2 : (a < i ∨ a = i ∧ b < k) ∧ a ≠ b
    · rw [if_pos h2, if_pos (by omega)]
    · rw [if_neg h2, if_neg (by omega)]
theorem initK_same {i : Nat} : initK i i = initK i (i + 1) := by
  funext a b
  unfold initK
  by_cases h2 : (a < i ∨ a = i ∧ b < i) ∧ a ≠ b
  · rw [if_pos h2, if_pos (by omega)]
  · rw [if_neg h2, if_neg (by omega)]
theorem initK_row (i : Nat) : encT 21 441 (initK i 21) = encT 21 441 (initK (i + 1) 0) := by
  refine encT_congr (by omega) (fun a b h1 h2 => ?_)
  unfold initK
  by_cases h : (a < i ∨ a = i ∧ b < 21) ∧ a ≠ b
  · rw [if_pos h, if_pos (by omega)]
  · rw [if_neg h, if_neg (by omega)]
theorem initK_all : encT 21 441 (initK 21 0) = encT 21 441 init0 := by
  refine encT_congr (by omega) (fun a b h1 h2 => ?_)
  unfold initK init0
  have : a < 21 := by
    apply Classical.byContradiction; intro hc
    have : 21 * 21 ≤ a * 21 := Nat.mul_le_mul_right _ (by omega)
    omega
  by_cases h : a = b
  · rw [if_pos h, if_neg (by omega)]
  · rw [if_neg h, if_pos (by omega)]
/-- The survey of two points and one shot. -/
def shot0 : St := ((0, 1), (-9, -1))
def sv0 (ba : Nat) : List Value := [.int .i64 2, .slice (some ⟨ba, 0, none⟩) 1 1, .slice none 0 0, .slice none 0 0]
theorem c197 (ba bs : Nat) (w : World) (h : Sl w 4 (fun c : List Value => c) (some ⟨bs, 0, none⟩) [sv0 ba]) : Calls Tryz.prog 197 #[.int .i64 0, .int .i64 1, .pointer (some ⟨bs, 0, none⟩)] w (RetV w (.bool true)) := by
  refine enter (args := [.int .i64 0, .int .i64 1, .pointer (some ⟨bs, 0, none⟩)]) Tryz.func197 rfl Tryz.ntmps197 rfl (SH.refl _) ?_
  repeat' (first | refine rn ?_ | (refine zb ?_; intro _ _) | (refine za ?_; intro _ _) | (refine zs ?_; intro _ _))
  refine TL_load_el1 (i := 0) (o := 0) rfl rfl (fun w h' => h'.sl h) rfl rfl ?_
  repeat' (first | refine rn ?_ | (refine zb ?_; intro _ _) | (refine za ?_; intro _ _) | (refine zs ?_; intro _ _))
  refine TL_callV rfl rfl rfl (fun w h => c137 0 1 [0, 1] _ 2 (by simp [Small]) w (Sl.of_blk h mm (fun y _ => rfl) ⟨[], rfl⟩)) ?_
  repeat' (first | refine rn ?_ | (refine zb ?_; intro _ _) | (refine za ?_; intro _ _) | (refine zs ?_; intro _ _))
  exact TQ_ret1 Tryz.results197 (RV.tmp rfl) (fun w' hs => ⟨by rw [show decide (∀ x ∈ [(0 : Int), 1], In x 0 1) = true by decide], hs.below⟩)
theorem c160 (ba : Nat) (w : World) (h : Sl w 4 encSt (some ⟨ba, 0, none⟩) [shot0]) : Calls Tryz.prog 160 #[.agg (sv0 ba).toArray] w (RetV w (.int .i64 0)) := by
  refine enter (args := [.agg (sv0 ba).toArray]) Tryz.func160 rfl Tryz.ntmps160 rfl (SH.refl _) ?_
  repeat' (first | refine rn ?_ | (refine zb ?_; intro _ _) | (refine za ?_; intro _ _) | (refine zs ?_; intro _ _))
  rename_i b1 _ _ _
  refine TL_callV rfl rfl rfl (fun w h => c137 1 20 [2] _ 1 (by simp [Small]) w (Sl.of_blk h mm (fun y _ => rfl) ⟨[], rfl⟩)) ?_
  rw [show decide (∀ x ∈ [(2 : Int)], In x 1 20) = true by decide]
  repeat' (first | refine rn ?_ | (refine zb ?_; intro _ _) | (refine za ?_; intro _ _) | (refine zs ?_; intro _ _) | (refine TQ_roundN ?_) | (refine TC_loopN 8 ?_))
  refine TL_index 0 rfl rfl rfl (fun w h' => h'.sl h) rfl (by decide) (by decide) ?_
  refine TL_load_eln (u := shot0) (vs := [.int .i64 0, .int .i64 1, .int .i64 (-9), .int .i64 (-1)]) rfl rfl (fun w h' => h'.sl h) rfl rfl ?_
  repeat' (first | refine rn ?_ | (refine zb ?_; intro _ _) | (refine za ?_; intro _ _) | (refine zs ?_; intro _ _))
  rename_i b5 _
  refine TL_callV rfl rfl rfl (fun w h => c197 ba b1 w (Sl.of_blk (k := 4) (enc := fun c : List Value => c) (l := [sv0 ba]) h mm (fun y hy => by rw [List.mem_singleton.1 hy]; rfl) ⟨[], rfl⟩)) ?_
  repeat' (first | refine rn ?_ | (refine zb ?_; intro _ _) | (refine za ?_; intro _ _) | (refine zs ?_; intro _ _))
  refine TL_callV rfl rfl rfl (fun w h => c198 (-9, -1) (-20000000) 20000000 w) ?_
  rw [show decide (Ord (-9, -1) (-20000000) 20000000) = true by decide]
  repeat' (first | refine rn ?_ | (refine zb ?_; intro _ _) | (refine za ?_; intro _ _) | (refine zs ?_; intro _ _) | (refine TQ_roundN ?_) | (refine TC_loopN 8 ?_))
  exact TQ_ret1 Tryz.results160 (RV.tmp rfl) (fun w' hs => ⟨rfl, hs.below⟩)
abbrev Bn := Int × Int × Int
def encBn (b : Bn) : List Value := [.int .i64 b.1, .int .i64 b.2.1, .int .i64 b.2.2]
def bl : List Bn := [(2, 0, 10000000), (0, 2, 10000000), (2, 1, 10000000), (1, 2, 10000000), (0, 1, -1), (1, 0, 9)]
def yv (ba : Nat) : List Value := sv0 ba ++ [.map none, .int .i64 0]
theorem zero4L (w : World) : (zeroValue 4).run Tryz.prog w = .ok (.bool false) w := by
  obtain ⟨i, hi, hz⟩ : ∃ i, Tryz.prog.info? 4 = some i ∧ i.zero = some (.bool false) := ⟨_, rfl, rfl⟩
  simp [zeroValue, typeInfo, hi, hz]
theorem c199 (ba : Nat) (w : World) : Calls Tryz.prog 199 #[.agg (yv ba).toArray] w (RetP w.heap.size w (fun b : Nat => .func (.func 218) #[] #[.pointer (some ⟨b, 0, none⟩)]) (fun b => [(b, .cells (yv ba) 259)]) (fun _ => True)) := by
  refine enter (args := [.agg (yv ba).toArray]) Tryz.func199 rfl Tryz.ntmps199 rfl (SH.refl _) ?_
  repeat' (first | refine rn ?_ | (refine zb ?_; intro _ _) | (refine za ?_; intro _ _) | (refine zs ?_; intro _ _))
  rename_i b1 _
  exact TQ_ret1 Tryz.results199 (RV.tmp rfl) (fun w' hs => ⟨b1, trivial, rfl, hs⟩)
theorem c218 {B : Nat} {w0 : World} (ba bt lp : Nat) (Z Y : Nat → Hp) (hp : ∀ j, ((bt, Blk.cells (yv ba) 259) :: Z j).Perm (Y j)) (hsh : ∀ (w : World) (A : Hp), SH B w0 w A → Sl w 4 encSt (some ⟨ba, 0, none⟩) [shot0])
    (hy : Yld Tryz.prog B w0 lp 6 (fun j => [.agg (encBn (bl.getD j (0, 0, 0))).toArray]) Y) (w : World) (hs : SH B w0 w (Y 0)) :
    Calls Tryz.prog 218 #[.func (.yield lp) #[] #[], .pointer (some ⟨bt, 0, none⟩)] w (RetP B w0 (fun _ : Unit => .tuple #[]) (fun _ => Y 6) (fun _ => True)) := by
  refine enter (args := [.func (.yield lp) #[] #[], .pointer (some ⟨bt, 0, none⟩)]) Tryz.func218 rfl Tryz.ntmps218 rfl (hs.perm (hp 0)) ?_
  repeat' (first | refine rn ?_ | (refine zb ?_; intro _ _) | (refine za ?_; intro _ _) | (refine zs ?_; intro _ _) | (refine TQ_roundN ?_) | (refine TC_loopN 8 ?_))
  refine TL_yield rfl rfl rfl hy 0 [] (by decide) (by rfl) (by rw [List.append_nil]; exact (hp 0).symm) ?_
  refine TL_hp (H' := (bt, .cells (yv ba) 259) :: Z 1) (by rw [List.append_nil]; exact hp 1) ?_
  repeat' (first | refine rn ?_ | (refine zb ?_; intro _ _) | (refine za ?_; intro _ _) | (refine zs ?_; intro _ _) | (refine TQ_roundN ?_) | (refine TC_loopN 8 ?_))
  refine TL_yield rfl rfl rfl hy 1 [] (by decide) (by rfl) (by rw [List.append_nil]; exact (hp 1).symm) ?_
  refine TL_hp (H' := (bt, .cells (yv ba) 259) :: Z 2) (by rw [List.append_nil]; exact hp 2) ?_
  repeat' (first | refine rn ?_ | (refine zb ?_; intro _ _) | (refine za ?_; intro _ _) | (refine zs ?_; intro _ _) | (refine TQ_roundN ?_) | (refine TC_loopN 8 ?_))
  refine TL_yield rfl rfl rfl hy 2 [] (by decide) (by rfl) (by rw [List.append_nil]; exact (hp 2).symm) ?_
  refine TL_hp (H' := (bt, .cells (yv ba) 259) :: Z 3) (by rw [List.append_nil]; exact hp 3) ?_
  repeat' (first | refine rn ?_ | (refine zb ?_; intro _ _) | (refine za ?_; intro _ _) | (refine zs ?_; intro _ _) | (refine TQ_roundN ?_) | (refine TC_loopN 8 ?_))
  refine TL_yield rfl rfl rfl hy 3 [] (by decide) (by rfl) (by rw [List.append_nil]; exact (hp 3).symm) ?_
  refine TL_hp (H' := (bt, .cells (yv ba) 259) :: Z 4) (by rw [List.append_nil]; exact hp 4) ?_
  repeat' (first | refine rn ?_ | (refine zb ?_; intro _ _) | (refine za ?_; intro _ _) | (refine zs ?_; intro _ _) | (refine TQ_roundN ?_) | (refine TC_loopN 8 ?_))
  refine TL_index 0 rfl rfl rfl (fun w h => hsh w _ h) rfl (by decide) (by decide) ?_
  refine TL_load_eln (u := shot0) (vs := [.int .i64 0, .int .i64 1, .int .i64 (-9), .int .i64 (-1)]) rfl rfl (fun w h => hsh w _ h) rfl rfl ?_
  repeat' (first | refine rn ?_ | (refine zb ?_; intro _ _) | (refine za ?_; intro _ _) | (refine zs ?_; intro _ _))
  rename_i b6 _
  refine TL_lookup_nil rfl rfl rfl zero4L ?_
  repeat' (first | refine rn ?_ | (refine zb ?_; intro _ _) | (refine za ?_; intro _ _) | (refine zs ?_; intro _ _) | (refine TQ_roundN ?_) | (refine TC_loopN 8 ?_))
  refine TL_yield rfl rfl rfl hy 4 [(b6, .cells [.int .i64 0, .int .i64 1, .int .i64 (-9), .int .i64 (-1)] 185)] (by decide) (by rfl) ((List.perm_append_comm (l₂ := [_])).trans ((hp 4).symm.cons _)) ?_
  refine TL_hp (H' := (b6, .cells [.int .i64 0, .int .i64 1, .int .i64 (-9), .int .i64 (-1)] 185) :: (bt, .cells (yv ba) 259) :: Z 5) (((hp 5).cons _).trans (List.perm_append_comm (l₁ := [_]))) ?_
  repeat' (first | refine rn ?_ | (refine zb ?_; intro _ _) | (refine za ?_; intro _ _) | (refine zs ?_; intro _ _) | (refine TQ_roundN ?_) | (refine TC_loopN 8 ?_))
  refine TL_yield rfl rfl rfl hy 5 [(b6, .cells [.int .i64 0, .int .i64 1, .int .i64 (-9), .int .i64 (-1)] 185)] (by decide) (by rfl) ((List.perm_append_comm (l₂ := [_])).trans ((hp 5).symm.cons _)) ?_
  refine TL_hp (H' := (b6, .cells [.int .i64 0, .int .i64 1, .int .i64 (-9), .int .i64 (-1)] 185) :: (bt, .cells (yv ba) 259) :: Z 6) (((hp 6).cons _).trans (List.perm_append_comm (l₁ := [_]))) ?_
  repeat' (first | refine rn ?_ | (refine zb ?_; intro _ _) | (refine za ?_; intro _ _) | (refine zs ?_; intro _ _) | (refine TQ_roundN ?_) | (refine TC_loopN 8 ?_))
  exact TQ_end0 Tryz.results218 (fun w' hs => ⟨(), trivial, rfl, (hs.sub (List.sublist_cons_self _ _)).perm (hp 6).symm⟩)
end Go.Proofs.YtkpkebpofpcmaaaGreatDoor
