/- Walks of the package hour: what a telling tells, and each of some. -/
import Derived.Test.YtkpkebpofpcmaaaGreatDoorEngR
import Derived.Test.YtkpkebpofpcmaaaGreatDoorH3
namespace Go.Proofs.YtkpkebpofpcmaaaGreatDoor
open Go Go.Eng Go.RowKit Go.Proofs
set_option maxHeartbeats 2000000
set_option maxRecDepth 10000
attribute [local irreducible] TL TC TQ

/-- What the map of the kinds of tellings holds. -/
def tellsF (b1 b3 : Nat) : Int → Option Value :=
  fupd (fupd (fupd (fupd (fun _ => none) 1 (.func (.func 181) #[] #[.pointer (some ⟨b3, 0, none⟩)])) 2 (.func (.func 182) #[] #[.pointer (some ⟨b1, 0, none⟩), .pointer (some ⟨b3, 0, none⟩)])) 3 (.func (.func 183) #[] #[.pointer (some ⟨b1, 0, none⟩)])) 4 (.func (.func 184) #[] #[])
theorem c148 (k : Kp) (w : World) : Calls Tryz.prog 148 #[.agg (encKp k).toArray] w
    (RetP w.heap.size w (fun q : Nat × Nat × Nat × Array MapEntry × Nat => .map (some q.1)) (fun q => [(q.1, .obj (.map q.2.2.2.1 q.2.2.2.2)), (q.2.2.1, .cells [.func (.func 180) #[] #[.pointer (some ⟨q.2.1, 0, none⟩)]] 284), (q.2.1, .cells (encKp k) 96)]) (fun q => MR .u8 q.2.2.2.1.toList (tellsF q.2.1 q.2.2.1))) := by
  refine enter (args := [.agg (encKp k).toArray]) Tryz.func148 rfl Tryz.ntmps148 rfl (SH.refl _) ?_
  repeat' (first | refine rn ?_ | (refine zb ?_; intro _ _) | (refine za ?_; intro _ _) | (refine zs ?_; intro _ _))
  rename_i b1 _ b3 _
  refine TL_makeMap rfl (fun bm _ => ?_)
  repeat' (first | refine rn ?_ | (refine zb ?_; intro _ _) | (refine za ?_; intro _ _) | (refine zs ?_; intro _ _))
  refine TL_mapSet (.inr rfl) rfl rfl rfl (fun _ _ => up) MR.nil (fun es1 k1 m1 => ?_)
  repeat' (first | refine rn ?_ | (refine zb ?_; intro _ _) | (refine za ?_; intro _ _) | (refine zs ?_; intro _ _))
  refine TL_mapSet (.inr rfl) rfl rfl rfl (fun _ _ => up) m1 (fun es2 k2 m2 => ?_)
  repeat' (first | refine rn ?_ | (refine zb ?_; intro _ _) | (refine za ?_; intro _ _) | (refine zs ?_; intro _ _))
  refine TL_mapSet (.inr rfl) rfl rfl rfl (fun _ _ => up) m2 (fun es3 k3 m3 => ?_)
  repeat' (first | refine rn ?_ | (refine zb ?_; intro _ _) | (refine za ?_; intro _ _) | (refine zs ?_; intro _ _))
  refine TL_mapSet (.inr rfl) rfl rfl rfl (fun _ _ => up) m3 (fun es4 k4 m4 => ?_)
  repeat' (first | refine rn ?_ | (refine zb ?_; intro _ _) | (refine za ?_; intro _ _) | (refine zs ?_; intro _ _))
  exact TQ_ret1 Tryz.results148 (RV.tmp rfl) (fun w' hs => ⟨(bm, b1, b3, es4, k4), m4, rfl, hs⟩)
theorem zero204 (w : World) : (zeroValue 204).run Tryz.prog w = .ok .nilFunc w := by
  obtain ⟨i, hi, hz⟩ := Option.map_eq_some_iff.1 (show (Tryz.prog.info? 204).map (fun i => i.zero) = some (some Value.nilFunc) by kernel_rfl)
  simp [zeroValue, typeInfo, hi, hz]
def tellW (k : Kp) (t : Tg) : Sp × Bool :=
  if t.kind = 1 then marksW k.1 t.which t.which else if t.kind = 2 then betW k.1 t.which else if t.kind = 3 then starW k t else if t.kind = 4 then (ofW t.word, decide (Ord t.word (-100000) 100000)) else ((1, 0), false)
theorem tellsF_cases (kd : Int) (b1 b3 : Nat) : (kd = 1 ∧ tellsF b1 b3 kd = some (.func (.func 181) #[] #[.pointer (some ⟨b3, 0, none⟩)])) ∨ (kd = 2 ∧ tellsF b1 b3 kd = some (.func (.func 182) #[] #[.pointer (some ⟨b1, 0, none⟩), .pointer (some ⟨b3, 0, none⟩)])) ∨
    (kd = 3 ∧ tellsF b1 b3 kd = some (.func (.func 183) #[] #[.pointer (some ⟨b1, 0, none⟩)])) ∨ (kd = 4 ∧ tellsF b1 b3 kd = some (.func (.func 184) #[] #[])) ∨ (kd ≠ 1 ∧ kd ≠ 2 ∧ kd ≠ 3 ∧ kd ≠ 4 ∧ tellsF b1 b3 kd = none) := by
  unfold tellsF fupd
  by_cases h1 : kd = 1
  · subst h1; exact .inl ⟨rfl, rfl⟩
  by_cases h2 : kd = 2
  · subst h2; exact .inr (.inl ⟨rfl, rfl⟩)
  by_cases h3 : kd = 3
  · subst h3; exact .inr (.inr (.inl ⟨rfl, rfl⟩))
  by_cases h4 : kd = 4
  · subst h4; exact .inr (.inr (.inr (.inl ⟨rfl, rfl⟩)))
  · refine .inr (.inr (.inr (.inr ⟨h1, h2, h3, h4, ?_⟩)))
    rw [if_neg h4, if_neg h3, if_neg h2, if_neg h1]
theorem c118 (k : Kp) (t : Tg) (w : World) (hk : CkAt w k.1) (hv : Nv w) : Calls Tryz.prog 118 #[.agg (encKp k).toArray, .agg (encTg t).toArray] w (RetV w (tV (tellW k t))) := by
  refine enter (args := [.agg (encKp k).toArray, .agg (encTg t).toArray]) Tryz.func118 rfl Tryz.ntmps118 rfl (SH.refl _) ?_
  repeat' (first | refine rn ?_ | (refine zb ?_; intro _ _) | (refine za ?_; intro _ _) | (refine zs ?_; intro _ _))
  rename_i b2 _ b3 _ b4 _
  refine TC_join (σ := Nat × Nat) (fun _ => True) (fun q => [(2, .pointer (some ⟨b2, 0, none⟩)), (3, .pointer (some ⟨b3, 0, none⟩)), (4, .pointer (some ⟨b4, 0, none⟩)), (6, (tellsF q.1 q.2 t.kind).getD .nilFunc), (7, .bool (tellsF q.1 q.2 t.kind).isSome)])
    (fun q => [(q.2, .cells [.func (.func 180) #[] #[.pointer (some ⟨q.1, 0, none⟩)]] 284), (q.1, .cells (encKp k) 96), (b4, .cells (encSp (0, 0)) 106), (b3, .cells (encTg t) 64), (b2, .cells (encKp k) 96)]) ?_ (fun q _ => ?_)
  · refine TC_any Tryz.mixed ?_
    refine TA_stepL [0, 2] (by kernel_rfl) rfl ⟨?_, ?_, trivial⟩
    · change TL _ _ _ _ _ _ _ _ _ _ _
      refine r1 ?_; apply TL_nil; apply TQ_any
      refine TA_stepL [1, 2] (by kernel_rfl) rfl ⟨?_, ?_, trivial⟩
      · change TL _ _ _ _ _ _ _ _ _ _ _
        (refine TL_callN rfl rfl rfl (fun w h => c148 k w) ?_; rintro ⟨bm, q1, q3, es, clk⟩ mr; dsimp only at mr); apply TL_nil; apply TQ_any
        refine TA_stepL [2] (by kernel_rfl) rfl ⟨?_, trivial⟩
        change TL _ _ _ _ _ _ _ _ _ _ _
        refine r1 ?_; apply TL_nil; apply TQ_any
        refine TA_stepL [3] (by kernel_rfl) rfl ⟨?_, trivial⟩
        change TL _ _ _ _ _ _ _ _ _ _ _
        refine r1 ?_; apply TL_nil; apply TQ_any
        refine TA_stepL [4] (by kernel_rfl) rfl ⟨?_, trivial⟩
        change TL _ _ _ _ _ _ _ _ _ _ _
        refine TL_lookupOk rfl rfl rfl mm mr zero204 rfl rfl ?_; apply TL_nil; apply TQ_any
        refine TA_stepL [5] (by kernel_rfl) rfl ⟨?_, trivial⟩
        change TL _ _ _ _ _ _ _ _ _ _ _
        refine r1 ?_; apply TL_nil; apply TQ_any
        refine TA_stepL [6, 7] (by kernel_rfl) rfl ⟨?_, ?_, trivial⟩
        · change TL _ _ _ _ _ _ _ _ _ _ _
          refine r1 ?_; apply TL_nil; apply TQ_any
          refine TA_stepL [7, 8] (by kernel_rfl) rfl ⟨?_, ?_, trivial⟩
          · change TL _ _ _ _ _ _ _ _ _ _ _
            refine r1 ?_; apply TL_nil; apply TQ_any
            refine TA_stepL [8] (by kernel_rfl) rfl ⟨?_, trivial⟩
            change TL _ _ _ _ _ _ _ _ _ _ _
            refine r1 ?_; apply TL_nil; apply TQ_any
            refine TA_stepL [9] (by kernel_rfl) rfl ⟨?_, trivial⟩
            change TL _ _ _ _ _ _ _ _ _ _ _
            refine r1 ?_; apply TL_nil; apply TQ_any
            refine TA_done (by kernel_rfl) ?_
            exact TQ_mid (q1, q3) trivial sb (fun w h => h.sub (List.Sublist.cons _ (List.Sublist.refl _)))
          · change TL _ _ _ _ _ _ _ _ _ _ _
            refine r1 ?_; apply TL_nil; apply TQ_any
            refine TA_stepL [7] (by kernel_rfl) rfl ⟨?_, trivial⟩
            change TL _ _ _ _ _ _ _ _ _ _ _
            refine r1 ?_; apply TL_nil; apply TQ_any
            refine TA_stepL [9] (by kernel_rfl) rfl ⟨?_, trivial⟩
            change TL _ _ _ _ _ _ _ _ _ _ _
            refine r1 ?_; apply TL_nil; apply TQ_any
            refine TA_done (by kernel_rfl) ?_
            exact TQ_mid (q1, q3) trivial sb (fun w h => h.sub (List.Sublist.cons _ (List.Sublist.refl _)))
        · change TL _ _ _ _ _ _ _ _ _ _ _
          refine r1 ?_; apply TL_nil; apply TQ_any
          refine TA_stepL [6] (by kernel_rfl) rfl ⟨?_, trivial⟩
          change TL _ _ _ _ _ _ _ _ _ _ _
          refine r1 ?_; apply TL_nil; apply TQ_any
          refine TA_stepL [8] (by kernel_rfl) rfl ⟨?_, trivial⟩
          change TL _ _ _ _ _ _ _ _ _ _ _
          refine r1 ?_; apply TL_nil; apply TQ_any
          refine TA_stepL [9] (by kernel_rfl) rfl ⟨?_, trivial⟩
          change TL _ _ _ _ _ _ _ _ _ _ _
          refine r1 ?_; apply TL_nil; apply TQ_any
          refine TA_done (by kernel_rfl) ?_
          exact TQ_mid (q1, q3) trivial sb (fun w h => h.sub (List.Sublist.cons _ (List.Sublist.refl _)))
      · change TL _ _ _ _ _ _ _ _ _ _ _
        refine r1 ?_; apply TL_nil; apply TQ_any
        refine TA_stepL [1, 3] (by kernel_rfl) rfl ⟨?_, ?_, trivial⟩
        · change TL _ _ _ _ _ _ _ _ _ _ _
          (refine TL_callN rfl rfl rfl (fun w h => c148 k w) ?_; rintro ⟨bm, q1, q3, es, clk⟩ mr; dsimp only at mr); apply TL_nil; apply TQ_any
          refine TA_stepL [3] (by kernel_rfl) rfl ⟨?_, trivial⟩
          change TL _ _ _ _ _ _ _ _ _ _ _
          refine r1 ?_; apply TL_nil; apply TQ_any
          refine TA_stepL [4] (by kernel_rfl) rfl ⟨?_, trivial⟩
          change TL _ _ _ _ _ _ _ _ _ _ _
          refine TL_lookupOk rfl rfl rfl mm mr zero204 rfl rfl ?_; apply TL_nil; apply TQ_any
          refine TA_stepL [5] (by kernel_rfl) rfl ⟨?_, trivial⟩
          change TL _ _ _ _ _ _ _ _ _ _ _
          refine r1 ?_; apply TL_nil; apply TQ_any
          refine TA_stepL [6, 7] (by kernel_rfl) rfl ⟨?_, ?_, trivial⟩
          · change TL _ _ _ _ _ _ _ _ _ _ _
            refine r1 ?_; apply TL_nil; apply TQ_any
            refine TA_stepL [7, 8] (by kernel_rfl) rfl ⟨?_, ?_, trivial⟩
            · change TL _ _ _ _ _ _ _ _ _ _ _
              refine r1 ?_; apply TL_nil; apply TQ_any
              refine TA_stepL [8] (by kernel_rfl) rfl ⟨?_, trivial⟩
              change TL _ _ _ _ _ _ _ _ _ _ _
              refine r1 ?_; apply TL_nil; apply TQ_any
              refine TA_stepL [9] (by kernel_rfl) rfl ⟨?_, trivial⟩
              change TL _ _ _ _ _ _ _ _ _ _ _
              refine r1 ?_; apply TL_nil; apply TQ_any
              refine TA_done (by kernel_rfl) ?_
              exact TQ_mid (q1, q3) trivial sb (fun w h => h.sub (List.Sublist.cons _ (List.Sublist.refl _)))
            · change TL _ _ _ _ _ _ _ _ _ _ _
              refine r1 ?_; apply TL_nil; apply TQ_any
              refine TA_stepL [7] (by kernel_rfl) rfl ⟨?_, trivial⟩
              change TL _ _ _ _ _ _ _ _ _ _ _
              refine r1 ?_; apply TL_nil; apply TQ_any
              refine TA_stepL [9] (by kernel_rfl) rfl ⟨?_, trivial⟩
              change TL _ _ _ _ _ _ _ _ _ _ _
              refine r1 ?_; apply TL_nil; apply TQ_any
              refine TA_done (by kernel_rfl) ?_
              exact TQ_mid (q1, q3) trivial sb (fun w h => h.sub (List.Sublist.cons _ (List.Sublist.refl _)))
          · change TL _ _ _ _ _ _ _ _ _ _ _
            refine r1 ?_; apply TL_nil; apply TQ_any
            refine TA_stepL [6] (by kernel_rfl) rfl ⟨?_, trivial⟩
            change TL _ _ _ _ _ _ _ _ _ _ _
            refine r1 ?_; apply TL_nil; apply TQ_any
            refine TA_stepL [8] (by kernel_rfl) rfl ⟨?_, trivial⟩
            change TL _ _ _ _ _ _ _ _ _ _ _
            refine r1 ?_; apply TL_nil; apply TQ_any
            refine TA_stepL [9] (by kernel_rfl) rfl ⟨?_, trivial⟩
            change TL _ _ _ _ _ _ _ _ _ _ _
            refine r1 ?_; apply TL_nil; apply TQ_any
            refine TA_done (by kernel_rfl) ?_
            exact TQ_mid (q1, q3) trivial sb (fun w h => h.sub (List.Sublist.cons _ (List.Sublist.refl _)))
        · change TL _ _ _ _ _ _ _ _ _ _ _
          refine r1 ?_; apply TL_nil; apply TQ_any
          refine TA_stepL [1] (by kernel_rfl) rfl ⟨?_, trivial⟩
          change TL _ _ _ _ _ _ _ _ _ _ _
          (refine TL_callN rfl rfl rfl (fun w h => c148 k w) ?_; rintro ⟨bm, q1, q3, es, clk⟩ mr; dsimp only at mr); apply TL_nil; apply TQ_any
          refine TA_stepL [4] (by kernel_rfl) rfl ⟨?_, trivial⟩
          change TL _ _ _ _ _ _ _ _ _ _ _
          refine TL_lookupOk rfl rfl rfl mm mr zero204 rfl rfl ?_; apply TL_nil; apply TQ_any
          refine TA_stepL [5] (by kernel_rfl) rfl ⟨?_, trivial⟩
          change TL _ _ _ _ _ _ _ _ _ _ _
          refine r1 ?_; apply TL_nil; apply TQ_any
          refine TA_stepL [6, 7] (by kernel_rfl) rfl ⟨?_, ?_, trivial⟩
          · change TL _ _ _ _ _ _ _ _ _ _ _
            refine r1 ?_; apply TL_nil; apply TQ_any
            refine TA_stepL [7, 8] (by kernel_rfl) rfl ⟨?_, ?_, trivial⟩
            · change TL _ _ _ _ _ _ _ _ _ _ _
              refine r1 ?_; apply TL_nil; apply TQ_any
              refine TA_stepL [8] (by kernel_rfl) rfl ⟨?_, trivial⟩
              change TL _ _ _ _ _ _ _ _ _ _ _
              refine r1 ?_; apply TL_nil; apply TQ_any
              refine TA_stepL [9] (by kernel_rfl) rfl ⟨?_, trivial⟩
              change TL _ _ _ _ _ _ _ _ _ _ _
              refine r1 ?_; apply TL_nil; apply TQ_any
              refine TA_done (by kernel_rfl) ?_
              exact TQ_mid (q1, q3) trivial sb (fun w h => h.sub (List.Sublist.cons _ (List.Sublist.refl _)))
            · change TL _ _ _ _ _ _ _ _ _ _ _
              refine r1 ?_; apply TL_nil; apply TQ_any
              refine TA_stepL [7] (by kernel_rfl) rfl ⟨?_, trivial⟩
              change TL _ _ _ _ _ _ _ _ _ _ _
              refine r1 ?_; apply TL_nil; apply TQ_any
              refine TA_stepL [9] (by kernel_rfl) rfl ⟨?_, trivial⟩
              change TL _ _ _ _ _ _ _ _ _ _ _
              refine r1 ?_; apply TL_nil; apply TQ_any
              refine TA_done (by kernel_rfl) ?_
              exact TQ_mid (q1, q3) trivial sb (fun w h => h.sub (List.Sublist.cons _ (List.Sublist.refl _)))
          · change TL _ _ _ _ _ _ _ _ _ _ _
            refine r1 ?_; apply TL_nil; apply TQ_any
            refine TA_stepL [6] (by kernel_rfl) rfl ⟨?_, trivial⟩
            change TL _ _ _ _ _ _ _ _ _ _ _
            refine r1 ?_; apply TL_nil; apply TQ_any
            refine TA_stepL [8] (by kernel_rfl) rfl ⟨?_, trivial⟩
            change TL _ _ _ _ _ _ _ _ _ _ _
            refine r1 ?_; apply TL_nil; apply TQ_any
            refine TA_stepL [9] (by kernel_rfl) rfl ⟨?_, trivial⟩
            change TL _ _ _ _ _ _ _ _ _ _ _
            refine r1 ?_; apply TL_nil; apply TQ_any
            refine TA_done (by kernel_rfl) ?_
            exact TQ_mid (q1, q3) trivial sb (fun w h => h.sub (List.Sublist.cons _ (List.Sublist.refl _)))
    · change TL _ _ _ _ _ _ _ _ _ _ _
      refine r1 ?_; apply TL_nil; apply TQ_any
      refine TA_stepL [0, 3] (by kernel_rfl) rfl ⟨?_, ?_, trivial⟩
      · change TL _ _ _ _ _ _ _ _ _ _ _
        refine r1 ?_; apply TL_nil; apply TQ_any
        refine TA_stepL [1, 3] (by kernel_rfl) rfl ⟨?_, ?_, trivial⟩
        · change TL _ _ _ _ _ _ _ _ _ _ _
          (refine TL_callN rfl rfl rfl (fun w h => c148 k w) ?_; rintro ⟨bm, q1, q3, es, clk⟩ mr; dsimp only at mr); apply TL_nil; apply TQ_any
          refine TA_stepL [3] (by kernel_rfl) rfl ⟨?_, trivial⟩
          change TL _ _ _ _ _ _ _ _ _ _ _
          refine r1 ?_; apply TL_nil; apply TQ_any
          refine TA_stepL [4] (by kernel_rfl) rfl ⟨?_, trivial⟩
          change TL _ _ _ _ _ _ _ _ _ _ _
          refine TL_lookupOk rfl rfl rfl mm mr zero204 rfl rfl ?_; apply TL_nil; apply TQ_any
          refine TA_stepL [5] (by kernel_rfl) rfl ⟨?_, trivial⟩
          change TL _ _ _ _ _ _ _ _ _ _ _
          refine r1 ?_; apply TL_nil; apply TQ_any
          refine TA_stepL [6, 7] (by kernel_rfl) rfl ⟨?_, ?_, trivial⟩
          · change TL _ _ _ _ _ _ _ _ _ _ _
            refine r1 ?_; apply TL_nil; apply TQ_any
            refine TA_stepL [7, 8] (by kernel_rfl) rfl ⟨?_, ?_, trivial⟩
            · change TL _ _ _ _ _ _ _ _ _ _ _
              refine r1 ?_; apply TL_nil; apply TQ_any
              refine TA_stepL [8] (by kernel_rfl) rfl ⟨?_, trivial⟩
              change TL _ _ _ _ _ _ _ _ _ _ _
              refine r1 ?_; apply TL_nil; apply TQ_any
              refine TA_stepL [9] (by kernel_rfl) rfl ⟨?_, trivial⟩
              change TL _ _ _ _ _ _ _ _ _ _ _
              refine r1 ?_; apply TL_nil; apply TQ_any
              refine TA_done (by kernel_rfl) ?_
              exact TQ_mid (q1, q3) trivial sb (fun w h => h.sub (List.Sublist.cons _ (List.Sublist.refl _)))
            · change TL _ _ _ _ _ _ _ _ _ _ _
              refine r1 ?_; apply TL_nil; apply TQ_any
              refine TA_stepL [7] (by kernel_rfl) rfl ⟨?_, trivial⟩
              change TL _ _ _ _ _ _ _ _ _ _ _
              refine r1 ?_; apply TL_nil; apply TQ_any
              refine TA_stepL [9] (by kernel_rfl) rfl ⟨?_, trivial⟩
              change TL _ _ _ _ _ _ _ _ _ _ _
              refine r1 ?_; apply TL_nil; apply TQ_any
              refine TA_done (by kernel_rfl) ?_
              exact TQ_mid (q1, q3) trivial sb (fun w h => h.sub (List.Sublist.cons _ (List.Sublist.refl _)))
          · change TL _ _ _ _ _ _ _ _ _ _ _
            refine r1 ?_; apply TL_nil; apply TQ_any
            refine TA_stepL [6] (by kernel_rfl) rfl ⟨?_, trivial⟩
            change TL _ _ _ _ _ _ _ _ _ _ _
            refine r1 ?_; apply TL_nil; apply TQ_any
            refine TA_stepL [8] (by kernel_rfl) rfl ⟨?_, trivial⟩
            change TL _ _ _ _ _ _ _ _ _ _ _
            refine r1 ?_; apply TL_nil; apply TQ_any
            refine TA_stepL [9] (by kernel_rfl) rfl ⟨?_, trivial⟩
            change TL _ _ _ _ _ _ _ _ _ _ _
            refine r1 ?_; apply TL_nil; apply TQ_any
            refine TA_done (by kernel_rfl) ?_
            exact TQ_mid (q1, q3) trivial sb (fun w h => h.sub (List.Sublist.cons _ (List.Sublist.refl _)))
        · change TL _ _ _ _ _ _ _ _ _ _ _
          refine r1 ?_; apply TL_nil; apply TQ_any
          refine TA_stepL [1] (by kernel_rfl) rfl ⟨?_, trivial⟩
          change TL _ _ _ _ _ _ _ _ _ _ _
          (refine TL_callN rfl rfl rfl (fun w h => c148 k w) ?_; rintro ⟨bm, q1, q3, es, clk⟩ mr; dsimp only at mr); apply TL_nil; apply TQ_any
          refine TA_stepL [4] (by kernel_rfl) rfl ⟨?_, trivial⟩
          change TL _ _ _ _ _ _ _ _ _ _ _
          refine TL_lookupOk rfl rfl rfl mm mr zero204 rfl rfl ?_; apply TL_nil; apply TQ_any
          refine TA_stepL [5] (by kernel_rfl) rfl ⟨?_, trivial⟩
          change TL _ _ _ _ _ _ _ _ _ _ _
          refine r1 ?_; apply TL_nil; apply TQ_any
          refine TA_stepL [6, 7] (by kernel_rfl) rfl ⟨?_, ?_, trivial⟩
          · change TL _ _ _ _ _ _ _ _ _ _ _
            refine r1 ?_; apply TL_nil; apply TQ_any
            refine TA_stepL [7, 8] (by kernel_rfl) rfl ⟨?_, ?_, trivial⟩
            · change TL _ _ _ _ _ _ _ _ _ _ _
              refine r1 ?_; apply TL_nil; apply TQ_any
              refine TA_stepL [8] (by kernel_rfl) rfl ⟨?_, trivial⟩
              change TL _ _ _ _ _ _ _ _ _ _ _
              refine r1 ?_; apply TL_nil; apply TQ_any
              refine TA_stepL [9] (by kernel_rfl) rfl ⟨?_, trivial⟩
              change TL _ _ _ _ _ _ _ _ _ _ _
              refine r1 ?_; apply TL_nil; apply TQ_any
              refine TA_done (by kernel_rfl) ?_
              exact TQ_mid (q1, q3) trivial sb (fun w h => h.sub (List.Sublist.cons _ (List.Sublist.refl _)))
            · change TL _ _ _ _ _ _ _ _ _ _ _
              refine r1 ?_; apply TL_nil; apply TQ_any
              refine TA_stepL [7] (by kernel_rfl) rfl ⟨?_, trivial⟩
              change TL _ _ _ _ _ _ _ _ _ _ _
              refine r1 ?_; apply TL_nil; apply TQ_any
              refine TA_stepL [9] (by kernel_rfl) rfl ⟨?_, trivial⟩
              change TL _ _ _ _ _ _ _ _ _ _ _
              refine r1 ?_; apply TL_nil; apply TQ_any
              refine TA_done (by kernel_rfl) ?_
              exact TQ_mid (q1, q3) trivial sb (fun w h => h.sub (List.Sublist.cons _ (List.Sublist.refl _)))
          · change TL _ _ _ _ _ _ _ _ _ _ _
            refine r1 ?_; apply TL_nil; apply TQ_any
            refine TA_stepL [6] (by kernel_rfl) rfl ⟨?_, trivial⟩
            change TL _ _ _ _ _ _ _ _ _ _ _
            refine r1 ?_; apply TL_nil; apply TQ_any
            refine TA_stepL [8] (by kernel_rfl) rfl ⟨?_, trivial⟩
            change TL _ _ _ _ _ _ _ _ _ _ _
            refine r1 ?_; apply TL_nil; apply TQ_any
            refine TA_stepL [9] (by kernel_rfl) rfl ⟨?_, trivial⟩
            change TL _ _ _ _ _ _ _ _ _ _ _
            refine r1 ?_; apply TL_nil; apply TQ_any
            refine TA_done (by kernel_rfl) ?_
            exact TQ_mid (q1, q3) trivial sb (fun w h => h.sub (List.Sublist.cons _ (List.Sublist.refl _)))
      · change TL _ _ _ _ _ _ _ _ _ _ _
        refine r1 ?_; apply TL_nil; apply TQ_any
        refine TA_stepL [0] (by kernel_rfl) rfl ⟨?_, trivial⟩
        change TL _ _ _ _ _ _ _ _ _ _ _
        refine r1 ?_; apply TL_nil; apply TQ_any
        refine TA_stepL [1] (by kernel_rfl) rfl ⟨?_, trivial⟩
        change TL _ _ _ _ _ _ _ _ _ _ _
        (refine TL_callN rfl rfl rfl (fun w h => c148 k w) ?_; rintro ⟨bm, q1, q3, es, clk⟩ mr; dsimp only at mr); apply TL_nil; apply TQ_any
        refine TA_stepL [4] (by kernel_rfl) rfl ⟨?_, trivial⟩
        change TL _ _ _ _ _ _ _ _ _ _ _
        refine TL_lookupOk rfl rfl rfl mm mr zero204 rfl rfl ?_; apply TL_nil; apply TQ_any
        refine TA_stepL [5] (by kernel_rfl) rfl ⟨?_, trivial⟩
        change TL _ _ _ _ _ _ _ _ _ _ _
        refine r1 ?_; apply TL_nil; apply TQ_any
        refine TA_stepL [6, 7] (by kernel_rfl) rfl ⟨?_, ?_, trivial⟩
        · change TL _ _ _ _ _ _ _ _ _ _ _
          refine r1 ?_; apply TL_nil; apply TQ_any
          refine TA_stepL [7, 8] (by kernel_rfl) rfl ⟨?_, ?_, trivial⟩
          · change TL _ _ _ _ _ _ _ _ _ _ _
            refine r1 ?_; apply TL_nil; apply TQ_any
            refine TA_stepL [8] (by kernel_rfl) rfl ⟨?_, trivial⟩
            change TL _ _ _ _ _ _ _ _ _ _ _
            refine r1 ?_; apply TL_nil; apply TQ_any
            refine TA_stepL [9] (by kernel_rfl) rfl ⟨?_, trivial⟩
            change TL _ _ _ _ _ _ _ _ _ _ _
            refine r1 ?_; apply TL_nil; apply TQ_any
            refine TA_done (by kernel_rfl) ?_
            exact TQ_mid (q1, q3) trivial sb (fun w h => h.sub (List.Sublist.cons _ (List.Sublist.refl _)))
          · change TL _ _ _ _ _ _ _ _ _ _ _
            refine r1 ?_; apply TL_nil; apply TQ_any
            refine TA_stepL [7] (by kernel_rfl) rfl ⟨?_, trivial⟩
            change TL _ _ _ _ _ _ _ _ _ _ _
            refine r1 ?_; apply TL_nil; apply TQ_any
            refine TA_stepL [9] (by kernel_rfl) rfl ⟨?_, trivial⟩
            change TL _ _ _ _ _ _ _ _ _ _ _
            refine r1 ?_; apply TL_nil; apply TQ_any
            refine TA_done (by kernel_rfl) ?_
            exact TQ_mid (q1, q3) trivial sb (fun w h => h.sub (List.Sublist.cons _ (List.Sublist.refl _)))
        · change TL _ _ _ _ _ _ _ _ _ _ _
          refine r1 ?_; apply TL_nil; apply TQ_any
          refine TA_stepL [6] (by kernel_rfl) rfl ⟨?_, trivial⟩
          change TL _ _ _ _ _ _ _ _ _ _ _
          refine r1 ?_; apply TL_nil; apply TQ_any
          refine TA_stepL [8] (by kernel_rfl) rfl ⟨?_, trivial⟩
          change TL _ _ _ _ _ _ _ _ _ _ _
          refine r1 ?_; apply TL_nil; apply TQ_any
          refine TA_stepL [9] (by kernel_rfl) rfl ⟨?_, trivial⟩
          change TL _ _ _ _ _ _ _ _ _ _ _
          refine r1 ?_; apply TL_nil; apply TQ_any
          refine TA_done (by kernel_rfl) ?_
          exact TQ_mid (q1, q3) trivial sb (fun w h => h.sub (List.Sublist.cons _ (List.Sublist.refl _)))
  obtain ⟨q1, q3⟩ := q
  dsimp only
  rcases tellsF_cases t.kind q1 q3 with ⟨e1, e2⟩ | ⟨e1, e2⟩ | ⟨e1, e2⟩ | ⟨e1, e2⟩ | ⟨e1, e1', e1'', e1''', e2⟩
  · rw [e2]
    have ew : tellW k t = marksW k.1 t.which t.which := by unfold tellW; rw [if_pos e1]
    rw [ew]
    dsimp only [Option.getD, Option.isSome]
    repeat' (first | refine rn ?_ | (refine zb ?_; intro _ _) | (refine za ?_; intro _ _) | (refine zs ?_; intro _ _))
    refine TL_callV (cl := [.pointer (some ⟨q3, 0, none⟩)]) rfl rfl rfl (fun w h => c181 k t q1 q3 w ⟨Sl.of_blk h mm (fun _ _ => rfl) ⟨[], rfl⟩, hk.mono h.below⟩ (hv.mono h.below) (Sl.of_blk h mm (fun _ _ => rfl) ⟨[], rfl⟩)) ?_
    repeat' (first | refine rn ?_ | (refine zb ?_; intro _ _) | (refine za ?_; intro _ _) | (refine zs ?_; intro _ _))
    exact TQ_ret2 Tryz.results118 (RV.celln rfl mm (by rfl)) (RV.tmp rfl) (fun w' hs => ⟨rfl, hs.below⟩)
  · rw [e2]
    have ew : tellW k t = betW k.1 t.which := by unfold tellW; rw [if_neg (by omega), if_pos e1]
    rw [ew]
    dsimp only [Option.getD, Option.isSome]
    repeat' (first | refine rn ?_ | (refine zb ?_; intro _ _) | (refine za ?_; intro _ _) | (refine zs ?_; intro _ _))
    refine TL_callV (cl := [.pointer (some ⟨q1, 0, none⟩), .pointer (some ⟨q3, 0, none⟩)]) rfl rfl rfl (fun w h => c182 k t q1 q3 w ⟨Sl.of_blk h mm (fun _ _ => rfl) ⟨[], rfl⟩, hk.mono h.below⟩ (hv.mono h.below) (Sl.of_blk h mm (fun _ _ => rfl) ⟨[], rfl⟩)) ?_
    repeat' (first | refine rn ?_ | (refine zb ?_; intro _ _) | (refine za ?_; intro _ _) | (refine zs ?_; intro _ _))
    exact TQ_ret2 Tryz.results118 (RV.celln rfl mm (by rfl)) (RV.tmp rfl) (fun w' hs => ⟨rfl, hs.below⟩)
  · rw [e2]
    have ew : tellW k t = starW k t := by unfold tellW; rw [if_neg (by omega), if_neg (by omega), if_pos e1]
    rw [ew]
    dsimp only [Option.getD, Option.isSome]
    repeat' (first | refine rn ?_ | (refine zb ?_; intro _ _) | (refine za ?_; intro _ _) | (refine zs ?_; intro _ _))
    refine TL_callV (cl := [.pointer (some ⟨q1, 0, none⟩)]) rfl rfl rfl (fun w h => c183 k t q1 w ⟨Sl.of_blk h mm (fun _ _ => rfl) ⟨[], rfl⟩, hk.mono h.below⟩ (hv.mono h.below)) ?_
    repeat' (first | refine rn ?_ | (refine zb ?_; intro _ _) | (refine za ?_; intro _ _) | (refine zs ?_; intro _ _))
    exact TQ_ret2 Tryz.results118 (RV.celln rfl mm (by rfl)) (RV.tmp rfl) (fun w' hs => ⟨rfl, hs.below⟩)
  · rw [e2]
    have ew : tellW k t = (ofW t.word, decide (Ord t.word (-100000) 100000)) := by unfold tellW; rw [if_neg (by omega), if_neg (by omega), if_neg (by omega), if_pos e1]
    rw [ew]
    dsimp only [Option.getD, Option.isSome]
    repeat' (first | refine rn ?_ | (refine zb ?_; intro _ _) | (refine za ?_; intro _ _) | (refine zs ?_; intro _ _))
    refine TL_callV (cl := []) rfl rfl rfl (fun w h => c184 t w) ?_
    repeat' (first | refine rn ?_ | (refine zb ?_; intro _ _) | (refine za ?_; intro _ _) | (refine zs ?_; intro _ _))
    exact TQ_ret2 Tryz.results118 (RV.celln rfl mm (by rfl)) (RV.tmp rfl) (fun w' hs => ⟨rfl, hs.below⟩)
  · rw [e2]
    have ew : tellW k t = ((1, 0), false) := by unfold tellW; rw [if_neg e1, if_neg e1', if_neg e1'', if_neg e1''']
    rw [ew]
    dsimp only [Option.getD, Option.isSome]
    repeat' (first | refine rn ?_ | (refine zb ?_; intro _ _) | (refine za ?_; intro _ _) | (refine zs ?_; intro _ _))
    refine TL_load_eln (i := 0) (o := 0) rfl rfl (fun w h => h.sl hv) rfl rfl ?_
    repeat' (first | refine rn ?_ | (refine zb ?_; intro _ _) | (refine za ?_; intro _ _) | (refine zs ?_; intro _ _))
    exact TQ_ret2 Tryz.results118 (RV.celln rfl mm (by rfl)) (RV.tmp rfl) (fun w' hs => ⟨rfl, hs.below⟩)
end Go.Proofs.YtkpkebpofpcmaaaGreatDoor
