/- The walk of TopBowlful. -/
import Derived.Test.YtkpkebpofpcmaaaGreatDoorB1
import Derived.Test.YtkpkebpofpcmaaaGreatDoorR6
namespace Go.Proofs.YtkpkebpofpcmaaaGreatDoor
open Go Go.Eng Go.RowKit Go.Proofs
set_option maxHeartbeats 4000000
set_option maxRecDepth 10000
attribute [local irreducible] TL TC TQ

theorem c4 (n : Nt) (f : Sp) (field want : Int) (k : Ck) (w : World) (hnc : Sl w 5 encCn n.cao n.canals) (hnf : Sl w 1 encI n.fao n.fields) (hkm : Sl w 2 encSp k.mao k.marks) (hks : Sl w 4 encSt k.sao k.stars) (hv : Nv w) :
    Calls Tryz.prog 4 #[.agg (encNt n).toArray, .agg (encSp f).toArray, .int .i64 field, .int .i64 want, .agg (encCk k).toArray] w (RetV w (.bool true)) := by
  refine enter (args := [.agg (encNt n).toArray, .agg (encSp f).toArray, .int .i64 field, .int .i64 want, .agg (encCk k).toArray]) Tryz.func4 rfl Tryz.ntmps4 rfl (SH.refl _) ?_
  repeat' (first | refine rn ?_ | (refine zb ?_; intro _ _) | (refine za ?_; intro _ _) | (refine zs ?_; intro _ _))
  rename_i b5 _ b6 _ b9 _
  refine TL_callV rfl rfl rfl (fun w h => c14 w (hv.mono h.below)) ?_
  repeat' (first | refine rn ?_ | (refine zb ?_; intro _ _) | (refine za ?_; intro _ _) | (refine zs ?_; intro _ _))
  refine TL_callV rfl rfl rfl (fun w h => c15 n w) ?_
  repeat' (first | refine rn ?_ | (refine zb ?_; intro _ _) | (refine za ?_; intro _ _) | (refine zs ?_; intro _ _))
  refine TL_gsplit_dec rfl rfl (fun g1 => ?_) (fun g1 => ?_)
  · repeat' (first | refine rn ?_ | (refine zb ?_; intro _ _) | (refine za ?_; intro _ _) | (refine zs ?_; intro _ _))
    exact TQ_ret1 Tryz.results4 (RV.tmp rfl) (fun w' hs => ⟨rfl, hs.below⟩)
  repeat' (first | refine rn ?_ | (refine zb ?_; intro _ _) | (refine za ?_; intro _ _) | (refine zs ?_; intro _ _))
  refine TL_callN rfl rfl rfl (fun w h => c16 n g1 w (h.sl hnc) (h.sl hnf)) ?_
  intro e1 he1
  repeat' (first | refine rn ?_ | (refine zb ?_; intro _ _) | (refine za ?_; intro _ _) | (refine zs ?_; intro _ _))
  refine TL_gsplit_dec rfl rfl (fun g2 => ?_) (fun g2 => ?_)
  · repeat' (first | refine rn ?_ | (refine zb ?_; intro _ _) | (refine za ?_; intro _ _) | (refine zs ?_; intro _ _))
    exact TQ_ret1 Tryz.results4 (RV.tmp rfl) (fun w' hs => ⟨rfl, hs.below⟩)
  have hnt : OkNt n := he1 (Classical.not_not.1 g2)
  repeat' (first | refine rn ?_ | (refine zb ?_; intro _ _) | (refine za ?_; intro _ _) | (refine zs ?_; intro _ _))
  refine TL_callV rfl rfl rfl (fun w h => c8 k w) ?_
  repeat' (first | refine rn ?_ | (refine zb ?_; intro _ _) | (refine za ?_; intro _ _) | (refine zs ?_; intro _ _))
  refine TL_gsplit_dec rfl rfl (fun g3 => ?_) (fun g3 => ?_)
  · repeat' (first | refine rn ?_ | (refine zb ?_; intro _ _) | (refine za ?_; intro _ _) | (refine zs ?_; intro _ _))
    exact TQ_ret1 Tryz.results4 (RV.tmp rfl) (fun w' hs => ⟨rfl, hs.below⟩)
  have hk : CkAt w k := ⟨hkm, hks, by unfold Small; unfold greatC at g3; omega, by unfold Small; unfold greatC at g3; omega⟩
  repeat' (first | refine rn ?_ | (refine zb ?_; intro _ _) | (refine za ?_; intro _ _) | (refine zs ?_; intro _ _))
  refine TL_callN rfl rfl rfl (fun w h => c17 k w (hk.mono h.below)) ?_
  intro e2 he2
  repeat' (first | refine rn ?_ | (refine zb ?_; intro _ _) | (refine za ?_; intro _ _) | (refine zs ?_; intro _ _))
  refine TL_gsplit_dec rfl rfl (fun g4 => ?_) (fun g4 => ?_)
  · repeat' (first | refine rn ?_ | (refine zb ?_; intro _ _) | (refine za ?_; intro _ _) | (refine zs ?_; intro _ _))
    exact TQ_ret1 Tryz.results4 (RV.tmp rfl) (fun w' hs => ⟨rfl, hs.below⟩)
  have hok : OkCk k := he2 (Classical.not_not.1 g4)
  repeat' (first | refine rn ?_ | (refine zb ?_; intro _ _) | (refine za ?_; intro _ _) | (refine zs ?_; intro _ _))
  refine TL_gsplit_dec rfl rfl (fun g5 => ?_) (fun g5 => ?_)
  · repeat' (first | refine rn ?_ | (refine zb ?_; intro _ _) | (refine za ?_; intro _ _) | (refine zs ?_; intro _ _))
    exact TQ_ret1 Tryz.results4 (RV.tmp rfl) (fun w' hs => ⟨rfl, hs.below⟩)
  repeat' (first | refine rn ?_ | (refine zb ?_; intro _ _) | (refine za ?_; intro _ _) | (refine zs ?_; intro _ _))
  refine TL_gsplit_dec rfl rfl (fun g6 => ?_) (fun g6 => ?_)
  · repeat' (first | refine rn ?_ | (refine zb ?_; intro _ _) | (refine za ?_; intro _ _) | (refine zs ?_; intro _ _))
    exact TQ_ret1 Tryz.results4 (RV.tmp rfl) (fun w' hs => ⟨rfl, hs.below⟩)
  repeat' (first | refine rn ?_ | (refine zb ?_; intro _ _) | (refine za ?_; intro _ _) | (refine zs ?_; intro _ _))
  refine TL_gsplit_dec rfl rfl (fun g7 => ?_) (fun g7 => ?_)
  · repeat' (first | refine rn ?_ | (refine zb ?_; intro _ _) | (refine za ?_; intro _ _) | (refine zs ?_; intro _ _))
    exact TQ_ret1 Tryz.results4 (RV.tmp rfl) (fun w' hs => ⟨rfl, hs.below⟩)
  repeat' (first | refine rn ?_ | (refine zb ?_; intro _ _) | (refine za ?_; intro _ _) | (refine zs ?_; intro _ _))
  refine TL_gsplit_dec rfl rfl (fun g8 => ?_) (fun g8 => ?_)
  · repeat' (first | refine rn ?_ | (refine zb ?_; intro _ _) | (refine za ?_; intro _ _) | (refine zs ?_; intro _ _))
    exact TQ_ret1 Tryz.results4 (RV.tmp rfl) (fun w' hs => ⟨rfl, hs.below⟩)
  repeat' (first | refine rn ?_ | (refine zb ?_; intro _ _) | (refine za ?_; intro _ _) | (refine zs ?_; intro _ _))
  refine TL_gsplit_dec rfl rfl (fun g9 => ?_) (fun g9 => ?_)
  · repeat' (first | refine rn ?_ | (refine zb ?_; intro _ _) | (refine za ?_; intro _ _) | (refine zs ?_; intro _ _))
    exact TQ_ret1 Tryz.results4 (RV.tmp rfl) (fun w' hs => ⟨rfl, hs.below⟩)
  repeat' (first | refine rn ?_ | (refine zb ?_; intro _ _) | (refine za ?_; intro _ _) | (refine zs ?_; intro _ _))
  refine TL_gsplit_dec rfl rfl (fun g10 => ?_) (fun g10 => ?_)
  · repeat' (first | refine rn ?_ | (refine zb ?_; intro _ _) | (refine za ?_; intro _ _) | (refine zs ?_; intro _ _))
    exact TQ_ret1 Tryz.results4 (RV.tmp rfl) (fun w' hs => ⟨rfl, hs.below⟩)
  repeat' (first | refine rn ?_ | (refine zb ?_; intro _ _) | (refine za ?_; intro _ _) | (refine zs ?_; intro _ _))
  refine TL_gsplit_dec rfl rfl (fun g11 => ?_) (fun g11 => ?_)
  · repeat' (first | refine rn ?_ | (refine zb ?_; intro _ _) | (refine za ?_; intro _ _) | (refine zs ?_; intro _ _))
    exact TQ_ret1 Tryz.results4 (RV.tmp rfl) (fun w' hs => ⟨rfl, hs.below⟩)
  repeat' (first | refine rn ?_ | (refine zb ?_; intro _ _) | (refine za ?_; intro _ _) | (refine zs ?_; intro _ _))
  have hf : Ord f 0 13000000 := ⟨by omega, by omega, by omega⟩
  obtain ⟨fi, rfl⟩ : ∃ fi : Nat, field = fi := ⟨field.toNat, by omega⟩
  have hfi : fi < n.fields.length := by omega
  have hd := hnt.days.1; have hd2 := hnt.days.2
  obtain ⟨s1, s2, s3⟩ := hok.2.2.2.2.2.1
  refine TL_callN rfl rfl rfl (fun w h => c18 n hnt f hf fi hfi want (by omega) (by omega) w (h.sl hnc) (h.sl hnf)) ?_
  rintro ⟨m, e⟩ hq
  rcases hq with ⟨h1, h2⟩ | ⟨h1, m0, m1, hso, hno⟩
  · cases h1
    repeat' (first | refine rn ?_ | (refine zb ?_; intro _ _) | (refine za ?_; intro _ _) | (refine zs ?_; intro _ _))
    exact TQ_ret1 Tryz.results4 (RV.tmp rfl) (fun w' hs => ⟨rfl, hs.below⟩)
  dsimp only at h1 m0 m1 hso hno
  subst h1
  repeat' (first | refine rn ?_ | (refine zb ?_; intro _ _) | (refine za ?_; intro _ _) | (refine zs ?_; intro _ _))
  refine TL_gsplit_dec rfl rfl (fun g12 => ?_) (fun g12 => ?_)
  · exfalso; omega
  repeat' (first | refine rn ?_ | (refine zb ?_; intro _ _) | (refine za ?_; intro _ _) | (refine zs ?_; intro _ _))
  refine TC_cond_dec rfl (fun g13 => ?_) (fun g13 => ?_)
  · exfalso; omega
  repeat' (first | refine rn ?_ | (refine zb ?_; intro _ _) | (refine za ?_; intro _ _) | (refine zs ?_; intro _ _))
  refine TL_gsplit_dec rfl rfl (fun q1 => ?_) (fun q1 => ?_)
  · have hw : want = 0 := so_zero hnt hfi (by omega) (by rw [← q1]; exact hso)
    repeat' (first | refine rn ?_ | (refine zb ?_; intro _ _) | (refine za ?_; intro _ _) | (refine zs ?_; intro _ _))
    refine TL_eqlB rfl Tryz.underlying4 rfl rfl ?_
    repeat' (first | refine rn ?_ | (refine zb ?_; intro _ _) | (refine za ?_; intro _ _) | (refine zs ?_; intro _ _))
    exact TQ_ret1 Tryz.results4 (RV.tmp rfl) (fun w' hs => ⟨by rw [decide_eq_true q1, decide_eq_true hw]; rfl, hs.below⟩)
  have hw : 0 < want := so_no hnt hf hfi (m := m - 1) (by omega) (by omega) (hno q1)
  obtain ⟨u1, u2, u3⟩ := bowls_enough (m := m) (s := k.sinks.1) (by omega) (by omega)
  generalize hB : (1000 * m + k.sinks.1 - 1) / k.sinks.1 = B at u1 u2 u3 ⊢
  repeat' (first | refine rn ?_ | (refine zb ?_; intro _ _) | (refine za ?_; intro _ _) | (refine zs ?_; intro _ _))
  refine TC_cond_dec rfl (fun q2 => ?_) (fun q2 => ?_)
  · repeat' (first | refine rn ?_ | (refine zb ?_; intro _ _) | (refine za ?_; intro _ _) | (refine zs ?_; intro _ _))
    refine TL_eqlB rfl Tryz.underlying4 rfl rfl ?_
    repeat' (first | refine rn ?_ | (refine zb ?_; intro _ _) | (refine za ?_; intro _ _) | (refine zs ?_; intro _ _))
    exact TQ_ret1 Tryz.results4 (RV.tmp rfl) (fun w' hs => ⟨by rw [decide_eq_false q1, decide_eq_false (show ¬ want = 0 by omega)]; rfl, hs.below⟩)
  repeat' (first | refine rn ?_ | (refine zb ?_; intro _ _) | (refine za ?_; intro _ _) | (refine zs ?_; intro _ _))
  refine TL_callV rfl rfl rfl (fun w h => c19 k hok B (by omega) b9 w (Sl.of_blk h (by repeat (first | exact List.Mem.head _ | apply List.mem_cons_of_mem | apply List.mem_append_right)) (fun _ _ => rfl) ⟨[], rfl⟩) (hk.mono h.below) (hv.mono h.below)) ?_
  repeat' (first | refine rn ?_ | (refine zb ?_; intro _ _) | (refine za ?_; intro _ _) | (refine zs ?_; intro _ _))
  rename_i b16 _
  refine TL_callV rfl rfl rfl (fun w h => c19 k hok (B - 1) (by omega) b9 w (Sl.of_blk h (by repeat (first | exact List.Mem.head _ | apply List.mem_cons_of_mem | apply List.mem_append_right)) (fun _ _ => rfl) ⟨[], rfl⟩) (hk.mono h.below) (hv.mono h.below)) ?_
  repeat' (first | refine rn ?_ | (refine zb ?_; intro _ _) | (refine za ?_; intro _ _) | (refine zs ?_; intro _ _))
  rename_i b18 _
  have u1' : m ≤ (turnM k B).1 := u1
  have u2' : (turnM k (B - 1)).1 < m := u2
  have u4 : (turnM k B).1 ≤ (turnM k B).2 := by
    have := Int.mul_le_mul_of_nonneg_left s2 (show 0 ≤ B by omega)
    unfold turnM; dsimp only; omega
  refine TL_gsplit_dec rfl rfl (fun g14 => ?_) (fun g14 => ?_)
  · exfalso; omega
  repeat' (first | refine rn ?_ | (refine zb ?_; intro _ _) | (refine za ?_; intro _ _) | (refine zs ?_; intro _ _))
  refine TC_cond_dec rfl (fun g15 => ?_) (fun g15 => ?_)
  · exfalso; omega
  repeat' (first | refine rn ?_ | (refine zb ?_; intro _ _) | (refine za ?_; intro _ _) | (refine zs ?_; intro _ _))
  rename_i b172 _
  refine TC_loop (σ := Nat) (fun i => i ≤ 2) (fun i => [(2, .int .i64 fi), (3, .int .i64 want), (5, .pointer (some ⟨b5, 0, none⟩)), (6, .pointer (some ⟨b6, 0, none⟩)), (11, .bool true), (172, .slice (some ⟨b172, 0, none⟩) 2 2), (173, .int .i64 2), (174, .int .i64 i)]) (fun i => [(b172, .cells [.int .i64 (turnM k B).1, .int .i64 (turnM k B).2] 3), (b6, .cells (encSp f) 25), (b5, .cells (encNt n) 57)]) (fun i => 2 - i) 0 (by omega) sb (fun w h => h.sub su) (fun i hi => ?_)
  repeat' (first | refine rn ?_ | (refine zb ?_; intro _ _) | (refine za ?_; intro _ _) | (refine zs ?_; intro _ _))
  refine TC_cond_dec rfl (fun g16 => ?_) (fun g16 => ?_)
  · have hi2 : i < 2 := by omega
    obtain ⟨to_, hto, ht1⟩ : ∃ x, [(turnM k B).1, (turnM k B).2][i]? = some x ∧ m ≤ x := by
      match i, hi2 with
      | 0, _ => exact ⟨_, rfl, u1'⟩
      | 1, _ => exact ⟨_, rfl, by omega⟩
    have sT : ∀ {w' H'}, SH w.heap.size w w' H' → (b172, Blk.cells [.int .i64 (turnM k B).1, .int .i64 (turnM k B).2] 3) ∈ H' → Sl w' 1 encI (some ⟨b172, 0, none⟩) [(turnM k B).1, (turnM k B).2] := fun h hm => Sl.of_blk h hm (fun _ _ => rfl) ⟨[], rfl⟩
    repeat' (first | refine rn ?_ | (refine zb ?_; intro _ _) | (refine za ?_; intro _ _) | (refine zs ?_; intro _ _))
    refine TL_index i rfl rfl rfl (fun w h => sT h mm) rfl (show i < 2 from hi2) (Nat.le_refl 2) ?_
    refine TL_load_el1 (u := to_) rfl rfl (fun w h => sT h mm) hto rfl ?_
    repeat' (first | refine rn ?_ | (refine zb ?_; intro _ _) | (refine za ?_; intro _ _) | (refine zs ?_; intro _ _))
    refine TC_cond_dec rfl (fun g17 => ?_) (fun g17 => ?_)
    · repeat' (first | refine rn ?_ | (refine zb ?_; intro _ _) | (refine za ?_; intro _ _) | (refine zs ?_; intro _ _))
      exact TQ_round (i + 1) (by omega) (by omega) sb (fun w h => h.sub su)
    repeat' (first | refine rn ?_ | (refine zb ?_; intro _ _) | (refine za ?_; intro _ _) | (refine zs ?_; intro _ _))
    refine TL_callN rfl rfl rfl (fun w h => c20 n hnt f hf [⟨(fi : Int), (0, to_)⟩] _ 1 (by show 1 ≤ 60; omega) ⟨⟨by dsimp only; omega, by dsimp only; omega⟩, Int.le_refl _, by dsimp only; omega, by dsimp only; omega, trivial⟩ w (h.sl hnc) (h.sl hnf) (Sl.of_blk h (List.Mem.head _) (fun _ _ => rfl) ⟨[], rfl⟩)) ?_
    rintro ⟨bF, bL, cF, cL, F, L⟩ ⟨hrF, hrL, hFl, hLl, dls, hdl, hwat⟩
    dsimp only at hrF hrL hFl hLl hdl hwat ⊢
    obtain ⟨x, hx, hxw⟩ := wat_one hnt hf hfi m0 ht1 (by omega) hso hdl hwat
    have hne : F ≠ [] := by intro h; rw [h] at hFl; simp at hFl; omega
    have sF : ∀ {w' H'}, SH w.heap.size w w' H' → (bF, Blk.cells cF 25) ∈ H' → Sl w' 2 encSp (some ⟨bF, 0, none⟩) F := fun h hm => hrF.sl h (fun p hp => by rw [List.mem_singleton.1 hp]; exact hm)
    repeat' (first | refine rn ?_ | (refine zb ?_; intro _ _) | (refine za ?_; intro _ _) | (refine zs ?_; intro _ _))
    refine TL_gsplit_dec rfl rfl (fun g => absurd rfl g) (fun _ => ?_)
    repeat' (first | refine rn ?_ | (refine zb ?_; intro _ _) | (refine za ?_; intro _ _) | (refine zs ?_; intro _ _))
    refine TL_index fi rfl rfl rfl (fun w h => sF h mm) rfl (by omega) (by omega) ?_
    refine TL_guard_yes rfl rfl rfl ?_
    refine TL_fieldAddr_el rfl rfl (fun w h => sF h mm) hne ?_
    refine TL_guard_yes rfl rfl rfl ?_
    refine TL_load_el1 (u := x) rfl rfl (fun w h => sF h mm) hx rfl ?_
    repeat' (first | refine rn ?_ | (refine zb ?_; intro _ _) | (refine za ?_; intro _ _) | (refine zs ?_; intro _ _))
    refine TC_cond_dec rfl (fun g18 => ?_) (fun g18 => ?_)
    · exfalso; omega
    repeat' (first | refine rn ?_ | (refine zb ?_; intro _ _) | (refine za ?_; intro _ _) | (refine zs ?_; intro _ _))
    exact TQ_round (i + 1) (by omega) (by omega) sb (fun w h => h.sub su)
  · repeat' (first | refine rn ?_ | (refine zb ?_; intro _ _) | (refine za ?_; intro _ _) | (refine zs ?_; intro _ _))
    exact TQ_ret1 Tryz.results4 (RV.tmp rfl) (fun w' hs => ⟨rfl, hs.below⟩)
end Go.Proofs.YtkpkebpofpcmaaaGreatDoor
