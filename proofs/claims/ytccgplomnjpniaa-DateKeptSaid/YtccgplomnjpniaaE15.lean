/- Walks: what a bunch yields, of the program. -/
import Derived.Test.YtccgplomnjpniaaE14
namespace Go.Proofs.Ytccgplomnjpniaa
open Go Go.Eng Go.RowKit Go.Proofs
set_option maxHeartbeats 1000000
set_option maxRecDepth 10000
attribute [local irreducible] TL TC TQ

theorem c60 (f : Ft) (b : Bn) (ao : Option Addr) (c : Nat) (l : List Int) (lo : Option Addr) (lc : Nat) (hf : OkFt f) (hb : OkBn b) (hl : CutsOk b.ripe.length l) (w : World) (ha : Sl w 2 encSp ao b.ripe) (hal : Sl w 1 encI lo l) :
    Calls Try.prog 60 #[.agg (encTr f b ao c).toArray, .slice lo l.length lc] w (RetV w (.agg (encYd (cutR f b l)).toArray)) := by
  have hn : b.ripe.length ≤ 12 := by have := hb.1; simp only [In] at this; omega
  refine enterM (args := [.agg (encTr f b ao c).toArray, .slice lo l.length lc]) Try.func60 rfl Try.ntmps60 rfl (SH.refl _) ?_
  repeat' (first | refine rn ?_ | (apply TL_box; exact rfl; exact rfl; exact rfl; intro _ _) | (apply TL_alloc; exact rfl; intro _ _) | (apply TL_buildSlice; exact rfl; exact rfl; exact rfl; exact rfl; exact rfl; intro _ _))
  rename_i b2 _ b4 _ b5 _
  refine TL_makeMap rfl (fun m _ => ?_)
  repeat' (first | refine rn ?_ | (apply TL_box; exact rfl; exact rfl; exact rfl; intro _ _) | (apply TL_alloc; exact rfl; intro _ _) | (apply TL_buildSlice; exact rfl; exact rfl; exact rfl; exact rfl; exact rfl; intro _ _))
  refine TL_mapSet (.inr rfl) rfl rfl rfl (fun _ _ => up) MR.nil (fun es1 clk1 hr1 => ?_)
  repeat' (first | refine rn ?_ | (apply TL_box; exact rfl; exact rfl; exact rfl; intro _ _) | (apply TL_alloc; exact rfl; intro _ _) | (apply TL_buildSlice; exact rfl; exact rfl; exact rfl; exact rfl; exact rfl; intro _ _))
  refine TL_mapSet (.inr rfl) rfl rfl rfl (fun _ _ => up) hr1 (fun es2 clk2 hr2 => ?_)
  repeat' (first | refine rn ?_ | (apply TL_box; exact rfl; exact rfl; exact rfl; intro _ _) | (apply TL_alloc; exact rfl; intro _ _) | (apply TL_buildSlice; exact rfl; exact rfl; exact rfl; exact rfl; exact rfl; intro _ _))
  refine TL_mapSet (.inr rfl) rfl rfl rfl (fun _ _ => up) hr2 (fun es3 clk3 hr3 => ?_)
  repeat' (first | refine rn ?_ | (apply TL_box; exact rfl; exact rfl; exact rfl; intro _ _) | (apply TL_alloc; exact rfl; intro _ _) | (apply TL_buildSlice; exact rfl; exact rfl; exact rfl; exact rfl; exact rfl; intro _ _))
  rename_i b6 _
  refine TL_callN rfl rfl rfl (fun w h => c84 f b ao c l lo lc w) ?_
  rintro ⟨q1, q2⟩ -
  dsimp only
  repeat' (first | refine rn ?_ | (apply TL_box; exact rfl; exact rfl; exact rfl; intro _ _) | (apply TL_alloc; exact rfl; intro _ _) | (apply TL_buildSlice; exact rfl; exact rfl; exact rfl; exact rfl; exact rfl; intro _ _))
  refine TC_range (ps := [19, 20]) (k := 97) rfl rfl b.ripe.length (fun j => [.int .i64 j, .agg (encFa (fateR f b.ripe.length l j)).toArray])
    (fun j => [(q1, .cells (encTr f b ao c) 110), (q2, .cells [.slice lo l.length lc] 47), (b6, .cells [.map (some m)] 131), (m, .obj (.map es3 clk3)), (b5, .cells (encYd (cutK f b l j)) 55), (b4, .cells (encYd zeroYd) 55), (b2, .cells (encTr f b ao c) 110)]) (fun j => rfl) (fun w h => h) ?_ ?_ ?_
  · intro lp Dd rec j G hj
    obtain ⟨s, hs⟩ : ∃ s, b.ripe[j]? = some s := ⟨_, List.getElem?_eq_getElem hj⟩
    have hsm : s ∈ b.ripe := List.mem_of_getElem? hs
    have hB := birdB (l := l) hf hb hn hj hsm
    have hy := cutK_B (l := l) hf hb j (by omega)
    have hnext : cutK f b l (j + 1) = stepY f b l (cutK f b l j) j s := by
      rw [cutK, List.getD_eq_getElem?_getD, hs]; rfl
    have hfc := fate_cases (l := l) hf hn hj
    have ht := takenR_in hB
    have hlf := leftR_in hB
    rw [hnext]
    unfold stepY
    generalize fateR f b.ripe.length l j = fa at *
    generalize cutK f b l j = y at *
    obtain ⟨way, d⟩ := fa
    dsimp only at *
    repeat' (first | refine rn ?_ | (apply TL_box; exact rfl; exact rfl; exact rfl; intro _ _) | (apply TL_alloc; exact rfl; intro _ _) | (apply TL_buildSlice; exact rfl; exact rfl; exact rfl; exact rfl; exact rfl; intro _ _))
    rename_i b8 _
    refine TQ_asg (rec := rec) up ?_
    repeat' (first | refine rn ?_ | (apply TL_box; exact rfl; exact rfl; exact rfl; intro _ _) | (apply TL_alloc; exact rfl; intro _ _) | (apply TL_buildSlice; exact rfl; exact rfl; exact rfl; exact rfl; exact rfl; intro _ _))
    apply TC_draw3 15 12; kernel_rfl; exact Try.mixed
    · iterate 5 (refine' pv ?_; rotate_left)
      (refine' PG.val rfl rfl (by intro _X; refine TL_index j rfl rfl rfl (fun w h => h.sl ha) rfl hj (Nat.le_refl _) ?_; exact qe) ?_; rotate_left)
      (refine' PG.val rfl rfl (by intro _X; refine TL_load_eln (u := s) rfl rfl (fun w h => h.sl ha) hs rfl ?_; exact qe) ?_; rotate_left)
      iterate 2 (refine' pv ?_; rotate_left)
      (refine' PG.val rfl rfl (by intro _X; refine TL_callV rfl rfl rfl (fun w _ => c85 f b ao c s d hB w) ?_; exact qe) ?_; rotate_left)
      iterate 3 (refine' pv ?_; rotate_left)
      iterate 2 (refine' pn ?_; rotate_left)
      exact PG.nil
    · rintro _ _ ⟨b10, _, rfl, rfl⟩ _ _ ⟨b9, _, rfl, rfl⟩; change TL _ _ _ _ _ _ _ _ _ _ _; refine r1 ?_; exact TL_nil TQ_endN
    rintro _ _ ⟨b10, _, rfl, rfl⟩ _ _ ⟨b9, _, rfl, rfl⟩
    change TL _ _ _ _ _ _ _ _ _ _ _
    repeat' (first | refine rn ?_ | (apply TL_box; exact rfl; exact rfl; exact rfl; intro _ _) | (apply TL_alloc; exact rfl; intro _ _) | (apply TL_buildSlice; exact rfl; exact rfl; exact rfl; exact rfl; exact rfl; intro _ _))
    have hyt := hy.taken
    simp only [InS] at hyt ht
    have hy1 : YB { y with taken := addSp y.taken (takenR b s d) } 10000000000 := by
      have h0 := hy.mono (show 200000000 * (j : Int) ≤ 10000000000 by omega)
      exact { h0 with taken := addSp_in hy.taken (takenR_in hB) (by omega) }
    refine TL_callV rfl rfl rfl (fun w h => c82_2 y.taken (takenR b s d) _ _ w (Sl.of_blk h mm (fun _ _ => rfl) ⟨[], rfl⟩) ⟨by simp only [Small]; omega, by simp only [Small]; omega⟩ ⟨by simp only [Small]; omega, by simp only [Small]; omega⟩) ?_
    repeat' (first | refine rn ?_ | (apply TL_box; exact rfl; exact rfl; exact rfl; intro _ _) | (apply TL_alloc; exact rfl; intro _ _) | (apply TL_buildSlice; exact rfl; exact rfl; exact rfl; exact rfl; exact rfl; intro _ _))
    rename_i b37 _
    have hway : way = 0 ∨ way = 1 ∨ way = 2 := by omega
    rcases hway with rfl | rfl | rfl
    · have hd : In d 0 30 := by
        rcases hfc with h | h
        · exact h.2
        · omega
      refine TL_lookup_some (v := .func (.func 79) #[] #[.pointer (some ⟨b2, 0, none⟩), .pointer (some ⟨b5, 0, none⟩)]) rfl rfl rfl mm hr3 (by rfl) ?_
      repeat' (first | refine rn ?_ | (apply TL_box; exact rfl; exact rfl; exact rfl; intro _ _) | (apply TL_alloc; exact rfl; intro _ _) | (apply TL_buildSlice; exact rfl; exact rfl; exact rfl; exact rfl; exact rfl; intro _ _))
      refine TL_callAt 10 rfl rfl rfl rfl (fun w h => c79 f b ao c { y with taken := addSp y.taken (takenR b s d) } (leftR b s d) d hf hd hy1 hlf b2 b5 _ mm w h) ?_
      repeat' (first | refine rn ?_ | (apply TL_box; exact rfl; exact rfl; exact rfl; intro _ _) | (apply TL_alloc; exact rfl; intro _ _) | (apply TL_buildSlice; exact rfl; exact rfl; exact rfl; exact rfl; exact rfl; intro _ _))
      refine TQ_body (fun w h => ?_)
      rw [if_pos rfl]
      exact h.sub (List.Sublist.cons _ (List.Sublist.cons _ (List.Sublist.cons _ (List.Sublist.cons _ (List.Sublist.refl _)))))
    · refine TL_lookup_some (v := .func (.func 81) #[] #[.pointer (some ⟨b5, 0, none⟩)]) rfl rfl rfl mm hr3 (by rfl) ?_
      repeat' (first | refine rn ?_ | (apply TL_box; exact rfl; exact rfl; exact rfl; intro _ _) | (apply TL_alloc; exact rfl; intro _ _) | (apply TL_buildSlice; exact rfl; exact rfl; exact rfl; exact rfl; exact rfl; intro _ _))
      refine TL_callAt 10 rfl rfl rfl rfl (fun w h => c81 { y with taken := addSp y.taken (takenR b s d) } (leftR b s d) d hy1 hlf b5 _ w h) ?_
      repeat' (first | refine rn ?_ | (apply TL_box; exact rfl; exact rfl; exact rfl; intro _ _) | (apply TL_alloc; exact rfl; intro _ _) | (apply TL_buildSlice; exact rfl; exact rfl; exact rfl; exact rfl; exact rfl; intro _ _))
      refine TQ_body (fun w h => ?_)
      rw [if_neg (by decide), if_pos rfl]
      exact h.sub (List.Sublist.cons _ (List.Sublist.cons _ (List.Sublist.cons _ (List.Sublist.cons _ (List.Sublist.refl _)))))
    · refine TL_lookup_some (v := .func (.func 83) #[] #[.pointer (some ⟨b5, 0, none⟩)]) rfl rfl rfl mm hr3 (by rfl) ?_
      repeat' (first | refine rn ?_ | (apply TL_box; exact rfl; exact rfl; exact rfl; intro _ _) | (apply TL_alloc; exact rfl; intro _ _) | (apply TL_buildSlice; exact rfl; exact rfl; exact rfl; exact rfl; exact rfl; intro _ _))
      refine TL_callAt 10 rfl rfl rfl rfl (fun w h => c83 { y with taken := addSp y.taken (takenR b s d) } (leftR b s d) d hy1 hlf b5 _ w h) ?_
      repeat' (first | refine rn ?_ | (apply TL_box; exact rfl; exact rfl; exact rfl; intro _ _) | (apply TL_alloc; exact rfl; intro _ _) | (apply TL_buildSlice; exact rfl; exact rfl; exact rfl; exact rfl; exact rfl; intro _ _))
      refine TQ_body (fun w h => ?_)
      rw [if_neg (by decide), if_neg (by decide)]
      exact h.sub (List.Sublist.cons _ (List.Sublist.cons _ (List.Sublist.cons _ (List.Sublist.cons _ (List.Sublist.refl _)))))
  · intro lp Y G hY hyld w hs
    exact c97 f b ao c l lo lc q1 q2 lp _ Y hf hn hl (fun h => h.sl hal) (fun j => by rw [hY]; exact (List.perm_middle.trans (List.perm_middle.cons _)).symm) hyld w hs
  · intro Dd
    repeat' (first | refine rn ?_ | (apply TL_box; exact rfl; exact rfl; exact rfl; intro _ _) | (apply TL_alloc; exact rfl; intro _ _) | (apply TL_buildSlice; exact rfl; exact rfl; exact rfl; exact rfl; exact rfl; intro _ _))
    exact TQ_leaveM (rs := [.cell 4 55]) (vs := [.agg (encYd (cutR f b l)).toArray]) (.inl rfl) up Try.results60 ⟨RV.celln rfl mm rfl, trivial⟩ (fun w' hs => ⟨rfl, hs.below⟩)
end Go.Proofs.Ytccgplomnjpniaa
