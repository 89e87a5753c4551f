/- Walks of the package level: solve, open, fall, Runs, at the example of a gallery of one reach. -/
import Derived.Test.YtkpkebpofpcmaaaGreatDoorEngR
import Derived.Test.YtkpkebpofpcmaaaGreatDoorV1
namespace Go.Proofs.YtkpkebpofpcmaaaGreatDoor
open Go Go.Eng Go.RowKit Go.Proofs
set_option maxHeartbeats 4000000
set_option maxRecDepth 10000
attribute [local irreducible] TL TC TQ RN

def bz : Bn := (0, 0, 0)
def pvB : Nat → Bn
  | 0 => (-1, 0, 0)
  | j + 1 => bl.getD j bz
def TB : Nat → Tbl
  | 0 => init0
  | j + 1 => updT (TB j) (bl.getD j bz).1.toNat (bl.getD j bz).2.1.toNat (min (TB j (bl.getD j bz).1.toNat (bl.getD j bz).2.1.toNat) (bl.getD j bz).2.2)
theorem bl_ok : ∀ j, j < 6 → 0 ≤ (bl.getD j bz).1 ∧ (bl.getD j bz).1 ≤ 2 ∧ 0 ≤ (bl.getD j bz).2.1 ∧ (bl.getD j bz).2.1 ≤ 2 ∧ bl.getD j bz ≠ pvB j := by decide
def FS : Nat → Tbl
  | 0 => TB 6
  | s + 1 => updT (FS s) (s / 3 % 3) (s % 3) (min (FS s (s / 3 % 3) (s % 3)) (FS s (s / 3 % 3) (s / 9) + FS s (s / 9) (s % 3)))
def bdB (s : Nat) : Bool := (List.range 3).all fun a => (List.range 3).all fun b => decide (-1000000000 ≤ FS s a b) && decide (FS s a b ≤ 1000000000)
theorem bdB_all : ((List.range 27).all bdB) = true := by kernel_rfl
theorem FS_bd {s a b : Nat} (hs : s < 27) (ha : a < 3) (hb : b < 3) : -1000000000 ≤ FS s a b ∧ FS s a b ≤ 1000000000 := by
  have h1 := List.all_eq_true.1 bdB_all s (List.mem_range.2 hs)
  have h2 := List.all_eq_true.1 (List.all_eq_true.1 h1 a (List.mem_range.2 ha)) b (List.mem_range.2 hb)
  simpa using h2
theorem dgB_all : ((List.range 3).all fun j => (List.range 3).all fun a => decide (FS (9 * j + 9) a a = 0)) = true := by kernel_rfl
theorem FS_dg {j a : Nat} (hj : j < 3) (ha : a < 3) : FS (9 * j + 9) a a = 0 := by
  have h1 := List.all_eq_true.1 dgB_all j (List.mem_range.2 hj)
  have h2 := List.all_eq_true.1 h1 a (List.mem_range.2 ha)
  simpa using h2
theorem FS01 : FS 27 0 1 = -1 := by kernel_rfl
theorem FS10 : FS 27 1 0 = 9 := by kernel_rfl
theorem FS_succ {j i k : Nat} (hi : i < 3) (hk : k < 3) : FS (9 * j + 3 * i + (k + 1)) = updT (FS (9 * j + 3 * i + k)) i k (min (FS (9 * j + 3 * i + k) i k) (FS (9 * j + 3 * i + k) i j + FS (9 * j + 3 * i + k) j k)) := by
  show FS ((9 * j + 3 * i + k) + 1) = _
  rw [FS, show (9 * j + 3 * i + k) / 3 % 3 = i by omega, show (9 * j + 3 * i + k) % 3 = k by omega, show (9 * j + 3 * i + k) / 9 = j by omega]
theorem c161 (ba : Nat) (w : World) (hsh : Sl w 4 encSt (some ⟨ba, 0, none⟩) [shot0]) :
    Calls Tryz.prog 161 #[.agg (yv ba).toArray] w (RetP w.heap.size w (fun b : Nat => .tuple #[.pointer (some ⟨b, 0, none⟩), .bool true]) (fun b => [(b, Blk.cells (encT 21 441 (FS 27)) 301)]) (fun _ => True)) := by
  refine enterM (args := [.agg (yv ba).toArray]) Tryz.func161 rfl Tryz.ntmps161 rfl (SH.refl _) ?_
  repeat' (first | refine rn ?_ | (refine zb ?_; intro _ _) | (refine za ?_; intro _ _) | (refine zs ?_; intro _ _))
  rename_i b1 _ b2 _
  refine TC_scope ?_
  repeat' (first | refine rn ?_ | (refine zb ?_; intro _ _) | (refine za ?_; intro _ _) | (refine zs ?_; intro _ _))
  rename_i b13 _
  refine TC_loop (σ := Nat) (fun i => i ≤ 21) (fun i => [(1, .pointer (some ⟨b1, 0, none⟩)), (2, .pointer (some ⟨b2, 0, none⟩)), (3, .bool false), (14, .int .i64 i)]) (fun i => (b13, Blk.cells (encT 21 441 (initK i 0)) 301) :: (b2, Blk.cells [.pointer (some ⟨b13, 0, none⟩)] 230) :: [(b1, Blk.cells (yv ba) 259)]) (fun i => 21 - i) 0 (by omega) sb (fun w h => by rw [initK_zero, ← encT_zero]; exact h) (fun i hi => ?_)
  repeat' (first | refine rn ?_ | (refine zb ?_; intro _ _) | (refine za ?_; intro _ _) | (refine zs ?_; intro _ _))
  refine TC_cond_dec rfl (fun h1 => ?_) (fun h1 => ?_)
  · have hlt : i < 21 := by omega
    repeat' (first | refine rn ?_ | (refine zb ?_; intro _ _) | (refine za ?_; intro _ _) | (refine zs ?_; intro _ _))
    refine TC_loop (σ := Nat) (fun k => k ≤ 21) (fun k => [(1, .pointer (some ⟨b1, 0, none⟩)), (2, .pointer (some ⟨b2, 0, none⟩)), (3, .bool false), (14, .int .i64 i), (4, .int .i64 i), (17, .int .i64 k)]) (fun k => (b13, Blk.cells (encT 21 441 (initK i k)) 301) :: (b2, Blk.cells [.pointer (some ⟨b13, 0, none⟩)] 230) :: [(b1, Blk.cells (yv ba) 259)]) (fun k => 21 - k) 0 (by omega) sb (fun w h => h) (fun k hk => ?_)
    repeat' (first | refine rn ?_ | (refine zb ?_; intro _ _) | (refine za ?_; intro _ _) | (refine zs ?_; intro _ _))
    refine TC_cond_dec rfl (fun h2 => ?_) (fun h2 => ?_)
    · have hlk : k < 21 := by omega
      repeat' (first | refine rn ?_ | (refine zb ?_; intro _ _) | (refine za ?_; intro _ _) | (refine zs ?_; intro _ _))
      refine TC_cond_dec rfl (fun h3 => ?_) (fun h3 => ?_)
      · repeat' (first | refine rn ?_ | (refine zb ?_; intro _ _) | (refine za ?_; intro _ _) | (refine zs ?_; intro _ _))
        refine TL_nilCheck rfl rfl ?_
        refine TL_indexAddrA i rfl rfl rfl rfl hlt ?_
        refine TL_indexAddrA k rfl rfl rfl rfl hlk ?_
        refine TL_store rfl rfl rfl rfl rfl up (encT_put (c := 21) (n := 441) (i := i) (k := k) _ hlk (by omega) 20000000 (by omega)) ?_
        rw [initK_upd (by omega)]
        repeat' (first | refine rn ?_ | (refine zb ?_; intro _ _) | (refine za ?_; intro _ _) | (refine zs ?_; intro _ _))
        exact TQ_round (k + 1) hlk (by omega) sb (fun w h => h)
      · have hik : i = k := by omega
        subst hik
        repeat' (first | refine rn ?_ | (refine zb ?_; intro _ _) | (refine za ?_; intro _ _) | (refine zs ?_; intro _ _))
        exact TQ_round (i + 1) hlk (by omega) sb (fun w h => by rw [← initK_same]; exact h)
    · have hk2 : k = 21 := by omega
      subst hk2
      repeat' (first | refine rn ?_ | (refine zb ?_; intro _ _) | (refine za ?_; intro _ _) | (refine zs ?_; intro _ _))
      exact TQ_round (i + 1) hlt (by omega) sb (fun w h => by rw [← initK_row]; exact h)
  have hi2 : i = 21 := by omega
  subst hi2
  clear h1 hi
  rw [initK_all]
  repeat' (first | refine rn ?_ | (refine zb ?_; intro _ _) | (refine za ?_; intro _ _) | (refine zs ?_; intro _ _))
  rename_i b6 _
  refine TL_callN rfl rfl rfl (fun w h => c199 ba w) ?_
  rintro b67 -
  dsimp only
  repeat' (first | refine rn ?_ | (refine zb ?_; intro _ _) | (refine za ?_; intro _ _) | (refine zs ?_; intro _ _))
  refine TC_range (ps := [34]) (k := 218) rfl rfl 6 (fun j => [.agg (encBn (bl.getD j bz)).toArray])
    (fun j => (b67, Blk.cells (yv ba) 259) :: [(b6, Blk.cells (encBn (pvB j)) 303), (b13, Blk.cells (encT 21 441 (TB j)) 301), (b2, Blk.cells [.pointer (some ⟨b13, 0, none⟩)] 230), (b1, Blk.cells (yv ba) 259)]) (fun j => rfl) (fun w h => h) ?_ ?_ ?_
  · intro lp Dd rec j G' hj
    have hbo := bl_ok j hj
    have hsucc : TB (j + 1) = updT (TB j) (bl.getD j bz).1.toNat (bl.getD j bz).2.1.toNat (min (TB j (bl.getD j bz).1.toNat (bl.getD j bz).2.1.toNat) (bl.getD j bz).2.2) := rfl
    have hpv : pvB (j + 1) = bl.getD j bz := rfl
    rw [hpv]
    generalize pvB j = pb at hbo
    generalize bl.getD j bz = bb at hbo hsucc
    generalize TB j = T at hsucc
    repeat' (first | refine rn ?_ | (refine zb ?_; intro _ _) | (refine za ?_; intro _ _) | (refine zs ?_; intro _ _))
    rename_i b7 _
    refine TQ_asg (rec := rec) up ?_
    repeat' (first | refine rn ?_ | (refine zb ?_; intro _ _) | (refine za ?_; intro _ _) | (refine zs ?_; intro _ _))
    refine TC_cond_dec rfl (fun h1 => ?_) (fun h1 => ?_)
    · exfalso
      apply hbo.2.2.2.2
      simp only [List.cons.injEq, and_true] at h1
      exact Prod.ext h1.1 (Prod.ext h1.2.1 h1.2.2)
    · rw [hsucc]
      have hl1 : bb.1.toNat < 21 := by omega
      have hl2 : bb.2.1.toNat < 21 := by omega
      repeat' (first | refine rn ?_ | (refine zb ?_; intro _ _) | (refine za ?_; intro _ _) | (refine zs ?_; intro _ _))
      apply TC_draw 19; kernel_rfl; exact Tryz.mixed
      · iterate 10 (refine' pv ?_; rotate_left)
        (refine' PG.val rfl rfl (by intro _X; refine TL_nilCheck rfl rfl ?_; exact qe) ?_; rotate_left)
        (refine' PG.val rfl rfl (by intro _X; refine TL_indexAddrA bb.1.toNat rfl rfl rfl (by omega) hl1 ?_; exact qe) ?_; rotate_left)
        (refine' PG.val rfl rfl (by intro _X; refine TL_indexAddrA bb.2.1.toNat rfl rfl rfl (by omega) hl2 ?_; exact qe) ?_; rotate_left)
        (refine' PG.val rfl rfl (by intro _X; refine TL_load1 rfl rfl mm (encT_get (c := 21) (n := 441) (i := bb.1.toNat) (k := bb.2.1.toNat) T hl2 (by omega) (by omega)) ?_; exact qe) ?_; rotate_left)
        iterate 3 (refine' pv ?_; rotate_left)
        (refine' PG.val rfl rfl (by intro _X; refine TL_nilCheck rfl rfl ?_; exact qe) ?_; rotate_left)
        (refine' PG.val rfl rfl (by intro _X; refine TL_indexAddrA bb.1.toNat rfl rfl rfl (by omega) hl1 ?_; exact qe) ?_; rotate_left)
        exact PG.nil
      change TL _ _ _ _ _ _ _ _ _ _ _
      refine TL_indexAddrA bb.2.1.toNat rfl rfl rfl (by omega) hl2 ?_
      refine TL_store rfl rfl rfl rfl rfl up (encT_put (c := 21) (n := 441) (i := bb.1.toNat) (k := bb.2.1.toNat) T hl2 (by omega) (min (T bb.1.toNat bb.2.1.toNat) bb.2.2) (by omega)) ?_
      repeat' (first | refine rn ?_ | (refine zb ?_; intro _ _) | (refine za ?_; intro _ _) | (refine zs ?_; intro _ _))
      exact TQ_body (fun w h => h.sub (List.sublist_cons_self _ _))
  · intro lp Y G' hY hyld w hs
    exact c218 ba b67 lp (fun j => G' ++ [(b6, Blk.cells (encBn (pvB j)) 303), (b13, Blk.cells (encT 21 441 (TB j)) 301), (b2, Blk.cells [.pointer (some ⟨b13, 0, none⟩)] 230), (b1, Blk.cells (yv ba) 259)]) Y (fun j => by rw [hY]; exact List.perm_middle.symm) (fun w A h => h.sl hsh) hyld w hs
  intro Dd
  repeat' (first | refine rn ?_ | (refine zb ?_; intro _ _) | (refine za ?_; intro _ _) | (refine zs ?_; intro _ _))
  refine TC_loop (σ := Nat) (fun j => j ≤ 3) (fun j => [(1, .pointer (some ⟨b1, 0, none⟩)), (2, .pointer (some ⟨b2, 0, none⟩)), (3, .bool true), (8, .int .i64 3), (63, .int .i64 3), (64, .int .i64 j)]) (fun j => (Dd, Blk.obj (.deferred (some []))) :: (b13, Blk.cells (encT 21 441 (FS (9 * j))) 301) :: [(b2, Blk.cells [.pointer (some ⟨b13, 0, none⟩)] 230)]) (fun j => 3 - j) 0 (Nat.zero_le _) sb (fun w h => h.sub (by repeat (first | exact List.Sublist.refl _ | apply List.Sublist.cons_cons | apply List.Sublist.cons | apply List.nil_sublist))) (fun j hj => ?_)
  repeat' (first | refine rn ?_ | (refine zb ?_; intro _ _) | (refine za ?_; intro _ _) | (refine zs ?_; intro _ _))
  refine TC_cond_dec rfl (fun h1 => ?_) (fun h1 => ?_)
  rotate_left
  · have hj2 : j = 3 := by omega
    subst hj2
    repeat' (first | refine rn ?_ | (refine zb ?_; intro _ _) | (refine za ?_; intro _ _) | (refine zs ?_; intro _ _))
    refine TQ_scope_ret ?_
    exact TQ_leaveM (rs := [.cell 2 230, .tmp 3]) (vs := [.pointer (some ⟨b13, 0, none⟩), .bool true]) (.inl rfl) up Tryz.results161 ⟨RV.cell1 rfl mm (by rfl), RV.tmp rfl, trivial⟩ (fun w' hs => ⟨b13, trivial, rfl, hs.sub (by repeat (first | exact List.Sublist.refl _ | apply List.Sublist.cons_cons | apply List.Sublist.cons | apply List.nil_sublist))⟩)
  have hlt : j < 3 := by omega
  repeat' (first | refine rn ?_ | (refine zb ?_; intro _ _) | (refine za ?_; intro _ _) | (refine zs ?_; intro _ _))
  refine TC_loop (σ := Nat) (fun i => i ≤ 3) (fun i => [(1, .pointer (some ⟨b1, 0, none⟩)), (2, .pointer (some ⟨b2, 0, none⟩)), (3, .bool true), (8, .int .i64 3), (63, .int .i64 3), (64, .int .i64 j), (9, .int .i64 j), (67, .int .i64 3), (68, .int .i64 i)]) (fun i => (Dd, Blk.obj (.deferred (some []))) :: (b13, Blk.cells (encT 21 441 (FS (9 * j + 3 * i))) 301) :: [(b2, Blk.cells [.pointer (some ⟨b13, 0, none⟩)] 230)]) (fun i => 3 - i) 0 (Nat.zero_le _) sb (fun w h => h) (fun i hi => ?_)
  repeat' (first | refine rn ?_ | (refine zb ?_; intro _ _) | (refine za ?_; intro _ _) | (refine zs ?_; intro _ _))
  refine TC_cond_dec rfl (fun h2 => ?_) (fun h2 => ?_)
  · have hli : i < 3 := by omega
    repeat' (first | refine rn ?_ | (refine zb ?_; intro _ _) | (refine za ?_; intro _ _) | (refine zs ?_; intro _ _))
    refine TC_loop (σ := Nat) (fun k => k ≤ 3) (fun k => [(1, .pointer (some ⟨b1, 0, none⟩)), (2, .pointer (some ⟨b2, 0, none⟩)), (3, .bool true), (8, .int .i64 3), (63, .int .i64 3), (64, .int .i64 j), (9, .int .i64 j), (67, .int .i64 3), (68, .int .i64 i), (10, .int .i64 i), (71, .int .i64 3), (72, .int .i64 k)]) (fun k => (Dd, Blk.obj (.deferred (some []))) :: (b13, Blk.cells (encT 21 441 (FS (9 * j + 3 * i + k))) 301) :: [(b2, Blk.cells [.pointer (some ⟨b13, 0, none⟩)] 230)]) (fun k => 3 - k) 0 (Nat.zero_le _) sb (fun w h => h) (fun k hk => ?_)
    repeat' (first | refine rn ?_ | (refine zb ?_; intro _ _) | (refine za ?_; intro _ _) | (refine zs ?_; intro _ _))
    refine TC_cond_dec rfl (fun h3 => ?_) (fun h3 => ?_)
    · have hlk : k < 3 := by omega
      have hs1 := FS_succ (j := j) hli hlk
      have x1 := FS_bd (s := 9 * j + 3 * i + k) (by omega) hli hlk
      have x2 := FS_bd (s := 9 * j + 3 * i + k) (by omega) hli hlt
      have x3 := FS_bd (s := 9 * j + 3 * i + k) (by omega) hlt hlk
      generalize FS (9 * j + 3 * i + k) = X at hs1 x1 x2 x3
      repeat' (first | refine rn ?_ | (refine zb ?_; intro _ _) | (refine za ?_; intro _ _) | (refine zs ?_; intro _ _))
      apply TC_draw 28; kernel_rfl; exact Tryz.mixed
      · iterate 6 (refine' pv ?_; rotate_left)
        (refine' PG.val rfl rfl (by intro _X; refine TL_nilCheck rfl rfl ?_; exact qe) ?_; rotate_left)
        (refine' PG.val rfl rfl (by intro _X; refine TL_indexAddrA i rfl rfl rfl rfl (by omega) ?_; exact qe) ?_; rotate_left)
        (refine' PG.val rfl rfl (by intro _X; refine TL_indexAddrA k rfl rfl rfl rfl (by omega) ?_; exact qe) ?_; rotate_left)
        (refine' PG.val rfl rfl (by intro _X; refine TL_load1 rfl rfl mm (encT_get (c := 21) (n := 441) (i := i) (k := k) X (by omega) (by omega) (by omega)) ?_; exact qe) ?_; rotate_left)
        iterate 3 (refine' pv ?_; rotate_left)
        (refine' PG.val rfl rfl (by intro _X; refine TL_nilCheck rfl rfl ?_; exact qe) ?_; rotate_left)
        (refine' PG.val rfl rfl (by intro _X; refine TL_indexAddrA i rfl rfl rfl rfl (by omega) ?_; exact qe) ?_; rotate_left)
        (refine' PG.val rfl rfl (by intro _X; refine TL_indexAddrA j rfl rfl rfl rfl (by omega) ?_; exact qe) ?_; rotate_left)
        (refine' PG.val rfl rfl (by intro _X; refine TL_load1 rfl rfl mm (encT_get (c := 21) (n := 441) (i := i) (k := j) X (by omega) (by omega) (by omega)) ?_; exact qe) ?_; rotate_left)
        iterate 3 (refine' pv ?_; rotate_left)
        (refine' PG.val rfl rfl (by intro _X; refine TL_nilCheck rfl rfl ?_; exact qe) ?_; rotate_left)
        (refine' PG.val rfl rfl (by intro _X; refine TL_indexAddrA j rfl rfl rfl rfl (by omega) ?_; exact qe) ?_; rotate_left)
        (refine' PG.val rfl rfl (by intro _X; refine TL_indexAddrA k rfl rfl rfl rfl (by omega) ?_; exact qe) ?_; rotate_left)
        (refine' PG.val rfl rfl (by intro _X; refine TL_load1 rfl rfl mm (encT_get (c := 21) (n := 441) (i := j) (k := k) X (by omega) (by omega) (by omega)) ?_; exact qe) ?_; rotate_left)
        iterate 2 (refine' pv ?_; rotate_left)
        (refine' PG.val rfl rfl (by intro _X; refine TL_nilCheck rfl rfl ?_; exact qe) ?_; rotate_left)
        (refine' PG.val rfl rfl (by intro _X; refine TL_indexAddrA i rfl rfl rfl rfl (by omega) ?_; exact qe) ?_; rotate_left)
        exact PG.nil
      change TL _ _ _ _ _ _ _ _ _ _ _
      refine TL_indexAddrA k rfl rfl rfl rfl (by omega) ?_
      refine TL_store rfl rfl rfl rfl rfl up (encT_put (c := 21) (n := 441) (i := i) (k := k) X (by omega) (by omega) (min (X i k) (X i j + X j k)) (by omega)) ?_
      repeat' (first | refine rn ?_ | (refine zb ?_; intro _ _) | (refine za ?_; intro _ _) | (refine zs ?_; intro _ _))
      exact TQ_round (k + 1) hlk (by omega) sb (fun w h => by rw [hs1]; exact h)
    · have hk2 : k = 3 := by omega
      subst hk2
      repeat' (first | refine rn ?_ | (refine zb ?_; intro _ _) | (refine za ?_; intro _ _) | (refine zs ?_; intro _ _))
      exact TQ_round (i + 1) hli (by omega) sb (fun w h => h)
  have hi2 : i = 3 := by omega
  subst hi2
  clear h2 hi
  have hdg := fun a ha => FS_dg (j := j) (a := a) hlt ha
  rw [show 9 * j + 9 = 9 * (j + 1) by omega] at hdg
  rw [show 9 * j + 3 * 3 = 9 * (j + 1) by omega]
  obtain ⟨X, hX⟩ : ∃ X, X = FS (9 * (j + 1)) := ⟨_, rfl⟩
  rw [← hX] at hdg ⊢
  repeat' (first | refine rn ?_ | (refine zb ?_; intro _ _) | (refine za ?_; intro _ _) | (refine zs ?_; intro _ _))
  refine TC_loop (σ := Nat) (fun k => k ≤ 3) (fun k => [(1, .pointer (some ⟨b1, 0, none⟩)), (2, .pointer (some ⟨b2, 0, none⟩)), (3, .bool true), (8, .int .i64 3), (63, .int .i64 3), (64, .int .i64 j), (106, .int .i64 3), (107, .int .i64 k)]) (fun k => (Dd, Blk.obj (.deferred (some []))) :: (b13, Blk.cells (encT 21 441 (X)) 301) :: [(b2, Blk.cells [.pointer (some ⟨b13, 0, none⟩)] 230)]) (fun k => 3 - k) 0 (Nat.zero_le _) sb (fun w h => h) (fun k hk => ?_)
  repeat' (first | refine rn ?_ | (refine zb ?_; intro _ _) | (refine za ?_; intro _ _) | (refine zs ?_; intro _ _))
  refine TC_cond_dec rfl (fun h3 => ?_) (fun h3 => ?_)
  · have hlk : k < 3 := by omega
    repeat' (first | refine rn ?_ | (refine zb ?_; intro _ _) | (refine za ?_; intro _ _) | (refine zs ?_; intro _ _))
    refine TL_nilCheck rfl rfl ?_
    refine TL_indexAddrA k rfl rfl rfl rfl (by omega) ?_
    refine TL_indexAddrA k rfl rfl rfl rfl (by omega) ?_
    refine TL_load1 rfl rfl mm (encT_get (c := 21) (n := 441) (i := k) (k := k) X (by omega) (by omega) (by omega)) ?_
    rw [hdg k hlk]
    repeat' (first | refine rn ?_ | (refine zb ?_; intro _ _) | (refine za ?_; intro _ _) | (refine zs ?_; intro _ _))
    exact TQ_round (k + 1) hlk (by omega) sb (fun w h => h)
  · have hk2 : k = 3 := by omega
    subst hk2
    repeat' (first | refine rn ?_ | (refine zb ?_; intro _ _) | (refine za ?_; intro _ _) | (refine zs ?_; intro _ _))
    exact TQ_round (j + 1) hlt (by omega) sb (fun w h => by rw [← hX]; exact h)
theorem c136 (ba : Nat) (w : World) (hsh : Sl w 4 encSt (some ⟨ba, 0, none⟩) [shot0]) :
    Calls Tryz.prog 136 #[.agg (sv0 ba).toArray] w (RetP w.heap.size w (fun b : Nat => .tuple #[.pointer (some ⟨b, 0, none⟩), .int .i64 0]) (fun b => [(b, .cells (encT 21 441 (FS 27)) 301)]) (fun _ => True)) := by
  refine enter (args := [.agg (sv0 ba).toArray]) Tryz.func136 rfl Tryz.ntmps136 rfl (SH.refl _) ?_
  repeat' (first | refine rn ?_ | (refine zb ?_; intro _ _) | (refine za ?_; intro _ _) | (refine zs ?_; intro _ _))
  refine TL_callV rfl rfl rfl (fun w h => c160 ba w (h.sl hsh)) ?_
  repeat' (first | refine rn ?_ | (refine zb ?_; intro _ _) | (refine za ?_; intro _ _) | (refine zs ?_; intro _ _))
  refine TL_callN rfl rfl rfl (fun w h => c161 ba w (h.sl hsh)) ?_
  rintro b -
  repeat' (first | refine rn ?_ | (refine zb ?_; intro _ _) | (refine za ?_; intro _ _) | (refine zs ?_; intro _ _))
  exact TQ_ret2 Tryz.results136 (RV.tmp rfl) (RV.tmp rfl) (fun w' hs => ⟨b, trivial, rfl, hs.sub (List.sublist_append_left [_] _)⟩)
theorem g01 : takeN 1 (dropN 1 (encT 21 441 (FS 27))) = some [.int .i64 (-1)] := by
  have := encT_get (c := 21) (n := 441) (i := 0) (k := 1) (FS 27) (by decide) (by decide) (o := 1) rfl
  rw [FS01] at this; exact this
theorem g10 : takeN 1 (dropN 21 (encT 21 441 (FS 27))) = some [.int .i64 9] := by
  have := encT_get (c := 21) (n := 441) (i := 1) (k := 0) (FS 27) (by decide) (by decide) (o := 21) rfl
  rw [FS10] at this; exact this
theorem c138 (bt : Nat) (w : World) (ht : Sl w 441 (fun c : List Value => c) (some ⟨bt, 0, none⟩) [encT 21 441 (FS 27)]) :
    Calls Tryz.prog 138 #[.pointer (some ⟨bt, 0, none⟩), .int .i64 0, .int .i64 1] w (RetV w (.agg #[.int .i64 1, .int .i64 9])) := by
  refine enter (args := [.pointer (some ⟨bt, 0, none⟩), .int .i64 0, .int .i64 1]) Tryz.func138 rfl Tryz.ntmps138 rfl (SH.refl _) ?_
  repeat' (first | refine rn ?_ | (refine zb ?_; intro _ _) | (refine za ?_; intro _ _) | (refine zs ?_; intro _ _))
  apply TC_draw 16; kernel_rfl; exact Tryz.mixed
  · iterate 3 (refine' pv ?_; rotate_left)
    (refine' PG.val rfl rfl (by intro _X; refine TL_nilCheck rfl rfl ?_; exact qe) ?_; rotate_left)
    (refine' PG.val rfl rfl (by intro _X; refine TL_indexAddrA 0 rfl rfl rfl rfl (by decide) ?_; exact qe) ?_; rotate_left)
    (refine' PG.val rfl rfl (by intro _X; refine TL_indexAddrA 1 rfl rfl rfl rfl (by decide) ?_; exact qe) ?_; rotate_left)
    (refine' PG.val rfl rfl (by intro _X; refine TL_load_el1 (i := 0) (o := 1) rfl rfl (fun w h => h.sl ht) rfl g01 ?_; exact qe) ?_; rotate_left)
    iterate 4 (refine' pv ?_; rotate_left)
    (refine' PG.val rfl rfl (by intro _X; refine TL_nilCheck rfl rfl ?_; exact qe) ?_; rotate_left)
    (refine' PG.val rfl rfl (by intro _X; refine TL_indexAddrA 1 rfl rfl rfl rfl (by decide) ?_; exact qe) ?_; rotate_left)
    (refine' PG.val rfl rfl (by intro _X; refine TL_indexAddrA 0 rfl rfl rfl rfl (by decide) ?_; exact qe) ?_; rotate_left)
    (refine' PG.val rfl rfl (by intro _X; refine TL_load_el1 (i := 0) (o := 21) rfl rfl (fun w h => h.sl ht) rfl g10 ?_; exact qe) ?_; rotate_left)
    (refine' pv ?_; rotate_left)
    exact PG.nil
  change TL _ _ _ _ _ _ _ _ _ _ _
  repeat' (first | refine rn ?_ | (refine zb ?_; intro _ _) | (refine za ?_; intro _ _) | (refine zs ?_; intro _ _))
  exact TQ_ret1 Tryz.results138 (RV.celln rfl mm (by rfl)) (fun w' hs => ⟨rfl, hs.below⟩)
theorem c104 (ba bp : Nat) (w : World) (hsh : Sl w 4 encSt (some ⟨ba, 0, none⟩) [shot0]) (hp : Sl w 1 encI (some ⟨bp, 0, none⟩) [0, 1]) :
    Calls Tryz.prog 104 #[.agg (sv0 ba).toArray, .slice (some ⟨bp, 0, none⟩) 2 2] w (RetP w.heap.size w (fun q : Option Addr × Nat × Hp => .tuple #[.slice q.1 1 q.2.1, .int .i64 0]) (fun q => q.2.2) (fun q => Row 5 1 encU8 q.1 q.2.1 q.2.2 [2])) := by
  refine enter (args := [.agg (sv0 ba).toArray, .slice (some ⟨bp, 0, none⟩) 2 2]) Tryz.func104 rfl Tryz.ntmps104 rfl (SH.refl _) ?_
  repeat' (first | refine rn ?_ | (refine zb ?_; intro _ _) | (refine za ?_; intro _ _) | (refine zs ?_; intro _ _))
  refine TL_callN rfl rfl rfl (fun w h => c136 ba w (h.sl hsh)) ?_
  rintro bt -
  repeat' (first | refine rn ?_ | (refine zb ?_; intro _ _) | (refine za ?_; intro _ _) | (refine zs ?_; intro _ _))
  refine TL_callV rfl rfl rfl (fun w h => c137 0 1 [0, 1] _ 2 (by simp [Small]) w (h.sl hp)) ?_
  rw [show decide (∀ x ∈ [(0 : Int), 1], In x 0 1) = true by decide]
  repeat' (first | refine rn ?_ | (refine zb ?_; intro _ _) | (refine za ?_; intro _ _) | (refine zs ?_; intro _ _) | (refine TQ_roundN ?_) | (refine TC_loopN 8 ?_))
  apply TC_draw 12; kernel_rfl; exact Tryz.mixed
  · iterate 4 (refine' pv ?_; rotate_left)
    (refine' PG.val rfl rfl (by intro _X; refine TL_index 0 rfl rfl rfl (fun w h => h.sl hp) rfl (by decide) (by decide) ?_; exact qe) ?_; rotate_left)
    (refine' PG.val rfl rfl (by intro _X; refine TL_load_el1 (u := (0 : Int)) rfl rfl (fun w h => h.sl hp) rfl rfl ?_; exact qe) ?_; rotate_left)
    iterate 2 (refine' pv ?_; rotate_left)
    (refine' PG.val rfl rfl (by intro _X; refine TL_index 1 rfl rfl rfl (fun w h => h.sl hp) rfl (by decide) (by decide) ?_; exact qe) ?_; rotate_left)
    (refine' PG.val rfl rfl (by intro _X; refine TL_load_el1 (u := (1 : Int)) rfl rfl (fun w h => h.sl hp) rfl rfl ?_; exact qe) ?_; rotate_left)
    (refine' PG.val rfl rfl (by intro _X; refine TL_callV rfl rfl rfl (fun w h => c138 bt w (Sl.of_blk (k := 441) (enc := fun c : List Value => c) (l := [encT 21 441 (FS 27)]) h (by repeat (first | exact List.Mem.head _ | apply List.Mem.tail | apply List.mem_append_right)) (fun y hy => by rw [List.mem_singleton.1 hy]; exact encT_len _ _ _) ⟨[], by simp⟩)) ?_; exact qe) ?_; rotate_left)
    (refine' pn ?_; rotate_left)
    exact PG.nil
  rintro _ _ ⟨b11, _, rfl, rfl⟩
  change TL _ _ _ _ _ _ _ _ _ _ _
  repeat' (first | refine rn ?_ | (refine zb ?_; intro _ _) | (refine za ?_; intro _ _) | (refine zs ?_; intro _ _) | (refine TQ_roundN ?_) | (refine TC_loopN 8 ?_))
  refine TL_append (l := ([] : List Int)) (l2 := [2]) (enc := encU8) (G := _) rfl (by rfl) rfl rfl rfl rfl rfl (Row.nil _ _ _) pm_here (fun w h => Sl.of_blk h (List.Mem.head _) (fun _ _ => rfl) ⟨[], by rfl⟩) (fun u _ => rfl) (by decide) (by decide) (fun so sc ob hr => ?_)
  repeat' (first | refine rn ?_ | (refine zb ?_; intro _ _) | (refine za ?_; intro _ _) | (refine zs ?_; intro _ _) | (refine TQ_roundN ?_) | (refine TC_loopN 8 ?_))
  exact TQ_ret2 Tryz.results104 (RV.tmp rfl) (RV.tmp rfl) (fun w' hs => ⟨(so, sc, ob), hr, rfl, hs.sub (List.sublist_append_left _ _)⟩)
end Go.Proofs.YtkpkebpofpcmaaaGreatDoor
