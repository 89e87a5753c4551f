/- Walks: aflajref08.Round, for every length. -/
import Derived.Test.YtccgplomnjpniaaD1
import Derived.Test.YtccgplomnjpniaaE25
import Derived.Test.YtccgplomnjpniaaD14
namespace Go.Proofs.Ytccgplomnjpniaa
open Go Go.Eng Go.RowKit Go.Proofs
set_option maxHeartbeats 1000000
set_option maxRecDepth 10000
attribute [local irreducible] TL TC TQ

theorem c44w (R : Rd) (ao : Option Addr) (c : Nat) (hl : R.seas.length ≤ 9223372036854775807) (w : World) (ha : Sl w 3 encSn ao R.seas) :
    Calls Try.prog 44 #[.agg (encRd R ao c).toArray] w (RetV w (.bool (decide (OkRd R)))) := by
  refine enter (args := [.agg (encRd R ao c).toArray]) Try.func44 rfl Try.ntmps44 rfl (SH.refl _) ?_
  repeat' (first | refine rn ?_ | (apply TL_box; exact rfl; exact rfl; exact rfl; intro _ _) | (apply TL_alloc; exact rfl; intro _ _) | (apply TL_buildSlice; exact rfl; exact rfl; exact rfl; exact rfl; exact rfl; intro _ _))
  refine TL_callV rfl rfl rfl (fun w _ => c68 _ _ _ w) ?_
  repeat' (first | refine rn ?_ | (apply TL_box; exact rfl; exact rfl; exact rfl; intro _ _) | (apply TL_alloc; exact rfl; intro _ _) | (apply TL_buildSlice; exact rfl; exact rfl; exact rfl; exact rfl; exact rfl; intro _ _))
  refine TL_gsplit_dec rfl rfl (fun g1 => ?_) (fun g1 => ?_)
  · repeat' (first | refine rn ?_ | (apply TL_box; exact rfl; exact rfl; exact rfl; intro _ _) | (apply TL_alloc; exact rfl; intro _ _) | (apply TL_buildSlice; exact rfl; exact rfl; exact rfl; exact rfl; exact rfl; intro _ _))
    refine TQ_ret1 Try.results44 (RV.tmp rfl) (fun w' hs => RetV.no (fun h => ?_) hs.below); obtain ⟨h1, h2, h3, h4, h5, h6, h7⟩ := h; exact g1 h1
  repeat' (first | refine rn ?_ | (apply TL_box; exact rfl; exact rfl; exact rfl; intro _ _) | (apply TL_alloc; exact rfl; intro _ _) | (apply TL_buildSlice; exact rfl; exact rfl; exact rfl; exact rfl; exact rfl; intro _ _))
  refine TL_callV rfl rfl rfl (fun w _ => c68 _ _ _ w) ?_
  repeat' (first | refine rn ?_ | (apply TL_box; exact rfl; exact rfl; exact rfl; intro _ _) | (apply TL_alloc; exact rfl; intro _ _) | (apply TL_buildSlice; exact rfl; exact rfl; exact rfl; exact rfl; exact rfl; intro _ _))
  refine TL_gsplit_dec rfl rfl (fun g2 => ?_) (fun g2 => ?_)
  · repeat' (first | refine rn ?_ | (apply TL_box; exact rfl; exact rfl; exact rfl; intro _ _) | (apply TL_alloc; exact rfl; intro _ _) | (apply TL_buildSlice; exact rfl; exact rfl; exact rfl; exact rfl; exact rfl; intro _ _))
    refine TQ_ret1 Try.results44 (RV.tmp rfl) (fun w' hs => RetV.no (fun h => ?_) hs.below); obtain ⟨h1, h2, h3, h4, h5, h6, h7⟩ := h; exact g2 h2
  repeat' (first | refine rn ?_ | (apply TL_box; exact rfl; exact rfl; exact rfl; intro _ _) | (apply TL_alloc; exact rfl; intro _ _) | (apply TL_buildSlice; exact rfl; exact rfl; exact rfl; exact rfl; exact rfl; intro _ _))
  refine TL_callV rfl rfl rfl (fun w _ => c68 _ _ _ w) ?_
  repeat' (first | refine rn ?_ | (apply TL_box; exact rfl; exact rfl; exact rfl; intro _ _) | (apply TL_alloc; exact rfl; intro _ _) | (apply TL_buildSlice; exact rfl; exact rfl; exact rfl; exact rfl; exact rfl; intro _ _))
  refine TL_gsplit_dec rfl rfl (fun g3 => ?_) (fun g3 => ?_)
  · repeat' (first | refine rn ?_ | (apply TL_box; exact rfl; exact rfl; exact rfl; intro _ _) | (apply TL_alloc; exact rfl; intro _ _) | (apply TL_buildSlice; exact rfl; exact rfl; exact rfl; exact rfl; exact rfl; intro _ _))
    refine TQ_ret1 Try.results44 (RV.tmp rfl) (fun w' hs => RetV.no (fun h => ?_) hs.below); obtain ⟨h1, h2, h3, h4, h5, h6, h7⟩ := h; exact g3 h3
  repeat' (first | refine rn ?_ | (apply TL_box; exact rfl; exact rfl; exact rfl; intro _ _) | (apply TL_alloc; exact rfl; intro _ _) | (apply TL_buildSlice; exact rfl; exact rfl; exact rfl; exact rfl; exact rfl; intro _ _))
  refine TL_callV rfl rfl rfl (fun w _ => c68 _ _ _ w) ?_
  repeat' (first | refine rn ?_ | (apply TL_box; exact rfl; exact rfl; exact rfl; intro _ _) | (apply TL_alloc; exact rfl; intro _ _) | (apply TL_buildSlice; exact rfl; exact rfl; exact rfl; exact rfl; exact rfl; intro _ _))
  refine TL_gsplit_dec rfl rfl (fun g4 => ?_) (fun g4 => ?_)
  · repeat' (first | refine rn ?_ | (apply TL_box; exact rfl; exact rfl; exact rfl; intro _ _) | (apply TL_alloc; exact rfl; intro _ _) | (apply TL_buildSlice; exact rfl; exact rfl; exact rfl; exact rfl; exact rfl; intro _ _))
    refine TQ_ret1 Try.results44 (RV.tmp rfl) (fun w' hs => RetV.no (fun h => ?_) hs.below); obtain ⟨h1, h2, h3, h4, h5, h6, h7⟩ := h; exact g4 h4
  repeat' (first | refine rn ?_ | (apply TL_box; exact rfl; exact rfl; exact rfl; intro _ _) | (apply TL_alloc; exact rfl; intro _ _) | (apply TL_buildSlice; exact rfl; exact rfl; exact rfl; exact rfl; exact rfl; intro _ _))
  refine TL_callV rfl rfl rfl (fun w _ => c68 _ _ _ w) ?_
  repeat' (first | refine rn ?_ | (apply TL_box; exact rfl; exact rfl; exact rfl; intro _ _) | (apply TL_alloc; exact rfl; intro _ _) | (apply TL_buildSlice; exact rfl; exact rfl; exact rfl; exact rfl; exact rfl; intro _ _))
  refine TL_gsplit_dec rfl rfl (fun g5 => ?_) (fun g5 => ?_)
  · repeat' (first | refine rn ?_ | (apply TL_box; exact rfl; exact rfl; exact rfl; intro _ _) | (apply TL_alloc; exact rfl; intro _ _) | (apply TL_buildSlice; exact rfl; exact rfl; exact rfl; exact rfl; exact rfl; intro _ _))
    refine TQ_ret1 Try.results44 (RV.tmp rfl) (fun w' hs => RetV.no (fun h => ?_) hs.below); obtain ⟨h1, h2, h3, h4, h5, h6, h7⟩ := h; exact g5 h5
  repeat' (first | refine rn ?_ | (apply TL_box; exact rfl; exact rfl; exact rfl; intro _ _) | (apply TL_alloc; exact rfl; intro _ _) | (apply TL_buildSlice; exact rfl; exact rfl; exact rfl; exact rfl; exact rfl; intro _ _))
  rename_i b hb
  refine TC_cond_dec rfl (fun g6 => ?_) (fun g6 => ?_)
  · repeat' (first | refine rn ?_ | (apply TL_box; exact rfl; exact rfl; exact rfl; intro _ _) | (apply TL_alloc; exact rfl; intro _ _) | (apply TL_buildSlice; exact rfl; exact rfl; exact rfl; exact rfl; exact rfl; intro _ _))
    refine TQ_ret1 Try.results44 (RV.tmp rfl) (fun w' hs => RetV.no (fun h => ?_) hs.below); obtain ⟨h1, h2, h3, h4, h5, h6, h7⟩ := h; omega
  repeat' (first | refine rn ?_ | (apply TL_box; exact rfl; exact rfl; exact rfl; intro _ _) | (apply TL_alloc; exact rfl; intro _ _) | (apply TL_buildSlice; exact rfl; exact rfl; exact rfl; exact rfl; exact rfl; intro _ _))
  refine TC_loop (σ := Nat) (fun k => k ≤ R.seas.length ∧ ∀ i x, i < k → R.seas[i]? = some x → Ord x.1 0 1000000 ∧ In x.2 0 1000000) (fun k => [(1, .pointer (some ⟨b, 0, none⟩)), (3, .int .i64 k)]) (fun k => [(b, .cells (encRd R ao c) 26)]) (fun k => R.seas.length - k) 0 ⟨Nat.zero_le _, fun i x h => by omega⟩ sb (fun w h => h) (fun k hk => ?_)
  repeat' (first | refine rn ?_ | (apply TL_box; exact rfl; exact rfl; exact rfl; intro _ _) | (apply TL_alloc; exact rfl; intro _ _) | (apply TL_buildSlice; exact rfl; exact rfl; exact rfl; exact rfl; exact rfl; intro _ _))
  refine TC_cond_dec rfl (fun h1 => ?_) (fun h1 => ?_)
  · have hlt : k < R.seas.length := by omega
    obtain ⟨x, hx⟩ : ∃ x, R.seas[k]? = some x := ⟨_, List.getElem?_eq_getElem hlt⟩
    have hxm : x ∈ R.seas := List.mem_of_getElem? hx
    have hne : R.seas ≠ [] := by intro h; simp [h] at hlt
    repeat' (first | refine rn ?_ | (apply TL_box; exact rfl; exact rfl; exact rfl; intro _ _) | (apply TL_alloc; exact rfl; intro _ _) | (apply TL_buildSlice; exact rfl; exact rfl; exact rfl; exact rfl; exact rfl; intro _ _))
    refine TL_index k rfl rfl rfl (fun w h => h.sl ha) rfl hlt (Nat.le_refl _) ?_
    refine TL_fieldAddr_el rfl rfl (fun w h => h.sl ha) hne ?_
    refine TL_load_eln rfl rfl (fun w h => h.sl ha) hx rfl ?_
    refine TL_callV rfl rfl rfl (fun w _ => c68 x.1 _ _ w) ?_
    repeat' (first | refine rn ?_ | (apply TL_box; exact rfl; exact rfl; exact rfl; intro _ _) | (apply TL_alloc; exact rfl; intro _ _) | (apply TL_buildSlice; exact rfl; exact rfl; exact rfl; exact rfl; exact rfl; intro _ _))
    refine TL_gsplit_dec rfl rfl (fun g7 => ?_) (fun g7 => ?_)
    · repeat' (first | refine rn ?_ | (apply TL_box; exact rfl; exact rfl; exact rfl; intro _ _) | (apply TL_alloc; exact rfl; intro _ _) | (apply TL_buildSlice; exact rfl; exact rfl; exact rfl; exact rfl; exact rfl; intro _ _))
      refine TQ_ret1 Try.results44 (RV.tmp rfl) (fun w' hs => RetV.no (fun h => ?_) hs.below); obtain ⟨h1, h2, h3, h4, h5, h6, h7⟩ := h
      exact g7 (h7 _ hxm).1
    repeat' (first | refine rn ?_ | (apply TL_box; exact rfl; exact rfl; exact rfl; intro _ _) | (apply TL_alloc; exact rfl; intro _ _) | (apply TL_buildSlice; exact rfl; exact rfl; exact rfl; exact rfl; exact rfl; intro _ _))
    refine TL_index k rfl rfl rfl (fun w h => h.sl ha) rfl hlt (Nat.le_refl _) ?_
    repeat' (first | refine rn ?_ | (apply TL_box; exact rfl; exact rfl; exact rfl; intro _ _) | (apply TL_alloc; exact rfl; intro _ _) | (apply TL_buildSlice; exact rfl; exact rfl; exact rfl; exact rfl; exact rfl; intro _ _))
    refine TL_fieldAddr_el rfl rfl (fun w h => h.sl ha) hne ?_
    repeat' (first | refine rn ?_ | (apply TL_box; exact rfl; exact rfl; exact rfl; intro _ _) | (apply TL_alloc; exact rfl; intro _ _) | (apply TL_buildSlice; exact rfl; exact rfl; exact rfl; exact rfl; exact rfl; intro _ _))
    refine TL_load_el1 rfl rfl (fun w h => h.sl ha) hx rfl ?_
    repeat' (first | refine rn ?_ | (apply TL_box; exact rfl; exact rfl; exact rfl; intro _ _) | (apply TL_alloc; exact rfl; intro _ _) | (apply TL_buildSlice; exact rfl; exact rfl; exact rfl; exact rfl; exact rfl; intro _ _))
    refine TL_callV rfl rfl rfl (fun w _ => c48 _ _ _ w) ?_
    repeat' (first | refine rn ?_ | (apply TL_box; exact rfl; exact rfl; exact rfl; intro _ _) | (apply TL_alloc; exact rfl; intro _ _) | (apply TL_buildSlice; exact rfl; exact rfl; exact rfl; exact rfl; exact rfl; intro _ _))
    refine TC_cond_dec rfl (fun g8 => ?_) (fun g8 => ?_)
    · repeat' (first | refine rn ?_ | (apply TL_box; exact rfl; exact rfl; exact rfl; intro _ _) | (apply TL_alloc; exact rfl; intro _ _) | (apply TL_buildSlice; exact rfl; exact rfl; exact rfl; exact rfl; exact rfl; intro _ _))
      refine TQ_ret1 Try.results44 (RV.tmp rfl) (fun w' hs => RetV.no (fun h => ?_) hs.below); obtain ⟨h1, h2, h3, h4, h5, h6, h7⟩ := h
      exact g8 (h7 _ hxm).2
    repeat' (first | refine rn ?_ | (apply TL_box; exact rfl; exact rfl; exact rfl; intro _ _) | (apply TL_alloc; exact rfl; intro _ _) | (apply TL_buildSlice; exact rfl; exact rfl; exact rfl; exact rfl; exact rfl; intro _ _))
    refine TQ_round (k + 1) ⟨by omega, fun i y hi hx' => ?_⟩ (by omega) sb (fun w h => h)
    rcases Nat.lt_or_ge i k with h | h
    · exact hk.2 i y h hx'
    · have : i = k := by omega
      subst this
      rw [hx] at hx'; cases hx'
      exact ⟨Classical.not_not.1 g7, Classical.not_not.1 g8⟩
  · repeat' (first | refine rn ?_ | (apply TL_box; exact rfl; exact rfl; exact rfl; intro _ _) | (apply TL_alloc; exact rfl; intro _ _) | (apply TL_buildSlice; exact rfl; exact rfl; exact rfl; exact rfl; exact rfl; intro _ _))
    refine TQ_ret1 Try.results44 (RV.tmp rfl) (fun w' hs => RetV.yes ((⟨Classical.not_not.1 g1, Classical.not_not.1 g2, Classical.not_not.1 g3, Classical.not_not.1 g4, Classical.not_not.1 g5, by omega, fun x hx => ?_⟩ : OkRd R)) hs.below)
    obtain ⟨i, hi, rfl⟩ := List.getElem_of_mem hx
    exact hk.2 i _ (by omega) (by simp [hi])
end Go.Proofs.Ytccgplomnjpniaa
/- The walk of the statement DateHerd. -/
namespace Go.Proofs.Ytccgplomnjpniaa
open Go Go.Eng Go.RowKit Go.Proofs
set_option maxHeartbeats 4000000
set_option maxRecDepth 10000
attribute [local irreducible] TL TC TQ

theorem goR_run {R : Rd} {g : Int} (hR : OkRd R) (h1 : 0 ≤ g) (h2 : g ≤ 1000) : goR R g = runAll R g := by
  unfold goR
  rw [if_neg (not_not_intro hR), if_neg (not_not_intro ⟨h1, h2⟩)]
theorem c13 (R : Rd) (ao : Option Addr) (c : Nat) (g : Int) (hl : R.seas.length ≤ 9223372036854775807) (w : World) (ha : Sl w 3 encSn ao R.seas) :
    Calls Try.prog 13 #[.agg (encRd R ao c).toArray, .int .i64 g] w (RetV w (.bool true)) := by
  refine enter (args := [.agg (encRd R ao c).toArray, .int .i64 g]) Try.func13 rfl Try.ntmps13 rfl (SH.refl _) ?_
  repeat' (first | refine rn ?_ | (apply TL_box; exact rfl; exact rfl; exact rfl; intro _ _) | (apply TL_alloc; exact rfl; intro _ _) | (apply TL_buildSlice; exact rfl; exact rfl; exact rfl; exact rfl; exact rfl; intro _ _))
  refine TL_callV rfl rfl rfl (fun w _ => c31 w) ?_
  repeat' (first | refine rn ?_ | (apply TL_box; exact rfl; exact rfl; exact rfl; intro _ _) | (apply TL_alloc; exact rfl; intro _ _) | (apply TL_buildSlice; exact rfl; exact rfl; exact rfl; exact rfl; exact rfl; intro _ _))
  refine TL_callV rfl rfl rfl (fun w h => c44w R ao c hl w (h.sl ha)) ?_
  repeat' (first | refine rn ?_ | (apply TL_box; exact rfl; exact rfl; exact rfl; intro _ _) | (apply TL_alloc; exact rfl; intro _ _) | (apply TL_buildSlice; exact rfl; exact rfl; exact rfl; exact rfl; exact rfl; intro _ _))
  refine TL_gsplit_dec rfl rfl (fun g1 => ?_) (fun g1 => ?_)
  · repeat' (first | refine rn ?_ | (apply TL_box; exact rfl; exact rfl; exact rfl; intro _ _) | (apply TL_alloc; exact rfl; intro _ _) | (apply TL_buildSlice; exact rfl; exact rfl; exact rfl; exact rfl; exact rfl; intro _ _))
    exact TQ_ret1 Try.results13 (RV.tmp rfl) (fun w' hs => ⟨rfl, hs.below⟩)
  repeat' (first | refine rn ?_ | (apply TL_box; exact rfl; exact rfl; exact rfl; intro _ _) | (apply TL_alloc; exact rfl; intro _ _) | (apply TL_buildSlice; exact rfl; exact rfl; exact rfl; exact rfl; exact rfl; intro _ _))
  refine TL_gsplit_dec rfl rfl (fun g2 => ?_) (fun g2 => ?_)
  · repeat' (first | refine rn ?_ | (apply TL_box; exact rfl; exact rfl; exact rfl; intro _ _) | (apply TL_alloc; exact rfl; intro _ _) | (apply TL_buildSlice; exact rfl; exact rfl; exact rfl; exact rfl; exact rfl; intro _ _))
    exact TQ_ret1 Try.results13 (RV.tmp rfl) (fun w' hs => ⟨rfl, hs.below⟩)
  repeat' (first | refine rn ?_ | (apply TL_box; exact rfl; exact rfl; exact rfl; intro _ _) | (apply TL_alloc; exact rfl; intro _ _) | (apply TL_buildSlice; exact rfl; exact rfl; exact rfl; exact rfl; exact rfl; intro _ _))
  refine TL_gsplit_dec rfl rfl (fun g3 => ?_) (fun g3 => ?_)
  · repeat' (first | refine rn ?_ | (apply TL_box; exact rfl; exact rfl; exact rfl; intro _ _) | (apply TL_alloc; exact rfl; intro _ _) | (apply TL_buildSlice; exact rfl; exact rfl; exact rfl; exact rfl; exact rfl; intro _ _))
    exact TQ_ret1 Try.results13 (RV.tmp rfl) (fun w' hs => ⟨rfl, hs.below⟩)
  repeat' (first | refine rn ?_ | (apply TL_box; exact rfl; exact rfl; exact rfl; intro _ _) | (apply TL_alloc; exact rfl; intro _ _) | (apply TL_buildSlice; exact rfl; exact rfl; exact rfl; exact rfl; exact rfl; intro _ _))
  have hR : OkRd R := Classical.not_not.1 g1
  have hlen : R.seas.length ≤ 4611686018427387904 := by have := hR.2.2.2.2.2.1; omega
  obtain ⟨f, e, hf0, hfe, he, hsp, hgo⟩ := goats_spec hR
  have hz : (goR R g).2.2 = 0 ↔ (f ≤ g ∧ g < e) := by
    have := hsp g.toNat (by omega)
    rw [show ((g.toNat : Nat) : Int) = g by omega] at this
    rw [goR_run hR (by omega) (by omega)]; exact this
  have c17' := fun w h => c17 R ao c hlen w h
  rw [hgo] at c17'
  by_cases hfe' : f = e
  · rw [if_pos hfe'] at c17'
    refine TL_callV rfl rfl rfl (fun w h => c17' w (h.sl ha)) ?_
    repeat' (first | refine rn ?_ | (apply TL_box; exact rfl; exact rfl; exact rfl; intro _ _) | (apply TL_alloc; exact rfl; intro _ _) | (apply TL_buildSlice; exact rfl; exact rfl; exact rfl; exact rfl; exact rfl; intro _ _))
    refine TL_callN rfl rfl rfl (fun w h => c15 R g ao c hlen w (h.sl ha)) ?_
    rintro ⟨so, sc, ob⟩ hrow
    dsimp only [runV]
    repeat' (first | refine rn ?_ | (apply TL_box; exact rfl; exact rfl; exact rfl; intro _ _) | (apply TL_alloc; exact rfl; intro _ _) | (apply TL_buildSlice; exact rfl; exact rfl; exact rfl; exact rfl; exact rfl; intro _ _))
    apply TC_draw 14; kernel_rfl; exact Try.mixed
    · iterate 2 (refine' pv ?_; rotate_left)
      (refine' pg ?_; rotate_left)
      (refine' PG.val rfl rfl (by intro _X; (refine TL_guard_yes rfl rfl rfl ?_); refine TL_eql_same rfl rfl rfl ?_; exact qe) ?_; rotate_left)
      iterate 2 (refine' pv ?_; rotate_left)
      (refine' pg ?_; rotate_left)
      (refine' PG.val rfl rfl (by intro _X; (refine TL_guard_yes rfl rfl rfl ?_); refine TL_callV rfl rfl rfl (fun w _ => c34 0 0 w) ?_; exact qe) ?_; rotate_left)
      (refine' PG.val rfl rfl (by intro _X; (refine TL_guard_yes rfl rfl rfl ?_); refine TL_eqlS_same rfl rfl rfl rfl rfl rfl rfl ?_; exact qe) ?_; rotate_left)
      iterate 2 (refine' pv ?_; rotate_left)
      (refine' pg ?_; rotate_left)
      (refine' PG.val rfl rfl (by intro _X; (refine TL_guard_yes rfl rfl rfl ?_); refine TL_neq_t rfl rfl rfl (fun h => by have := hz.1 h; omega) ?_; exact qe) ?_; rotate_left)
      (refine' pv ?_; rotate_left)
      exact PG.nil
    change TL _ _ _ _ _ _ _ _ _ _ _
    repeat' (first | refine rn ?_ | (apply TL_box; exact rfl; exact rfl; exact rfl; intro _ _) | (apply TL_alloc; exact rfl; intro _ _) | (apply TL_buildSlice; exact rfl; exact rfl; exact rfl; exact rfl; exact rfl; intro _ _))
    exact TQ_ret1 Try.results13 (RV.tmp rfl) (fun w' hs => ⟨rfl, hs.below⟩)
  rw [if_neg hfe'] at c17'
  have hz1 : (goR R f).2.2 = 0 := by
    have := hsp f.toNat (by omega)
    rw [show ((f.toNat : Nat) : Int) = f by omega] at this
    rw [goR_run hR (by omega) (by omega)]; exact this.2 (by omega)
  have hz2 : (goR R (e - 1)).2.2 = 0 := by
    have := hsp (e - 1).toNat (by omega)
    rw [show (((e - 1).toNat : Nat) : Int) = e - 1 by omega] at this
    rw [goR_run hR (by omega) (by omega)]; exact this.2 (by omega)
  refine TL_callV rfl rfl rfl (fun w h => c17' w (h.sl ha)) ?_
  repeat' (first | refine rn ?_ | (apply TL_box; exact rfl; exact rfl; exact rfl; intro _ _) | (apply TL_alloc; exact rfl; intro _ _) | (apply TL_buildSlice; exact rfl; exact rfl; exact rfl; exact rfl; exact rfl; intro _ _))
  refine TL_callN rfl rfl rfl (fun w h => c15 R g ao c hlen w (h.sl ha)) ?_
  rintro ⟨so, sc, ob⟩ hrow
  dsimp only [runV]
  repeat' (first | (refine TL_lss_f rfl rfl rfl (by omega) ?_) | (refine TL_gtr_f rfl rfl rfl (by omega) ?_) | refine r1 ?_ | (apply TL_box; exact rfl; exact rfl; exact rfl; intro _ _) | (apply TL_alloc; exact rfl; intro _ _) | (apply TL_buildSlice; exact rfl; exact rfl; exact rfl; exact rfl; exact rfl; intro _ _))
  refine TL_callN rfl rfl rfl (fun w h => c15 R f ao c hlen w (h.sl ha)) ?_
  rintro ⟨so1, sc1, ob1⟩ hrow1
  dsimp only [runV]
  repeat' (first | refine rn ?_ | (apply TL_box; exact rfl; exact rfl; exact rfl; intro _ _) | (apply TL_alloc; exact rfl; intro _ _) | (apply TL_buildSlice; exact rfl; exact rfl; exact rfl; exact rfl; exact rfl; intro _ _))
  refine TL_callN rfl rfl rfl (fun w h => c15 R (e - 1) ao c hlen w (h.sl ha)) ?_
  rintro ⟨so2, sc2, ob2⟩ hrow2
  dsimp only [runV]
  by_cases ha1 : f ≤ g
  · by_cases ha2 : g ≤ e - 1
    · have hz3 := hz.2 ⟨ha1, by omega⟩
      repeat' (first | (refine TL_eql_t rfl rfl rfl hz1 ?_) | (refine TL_eql_t rfl rfl rfl hz2 ?_) | (refine TL_eql_t rfl rfl rfl hz3 ?_) | (refine TL_geq_t rfl rfl rfl ha1 ?_) | (refine TL_leq_t rfl rfl rfl ha2 ?_) | (refine TL_eqlB rfl rfl rfl rfl ?_) | refine r1 ?_ | (apply TL_box; exact rfl; exact rfl; exact rfl; intro _ _) | (apply TL_alloc; exact rfl; intro _ _) | (apply TL_buildSlice; exact rfl; exact rfl; exact rfl; exact rfl; exact rfl; intro _ _))
      exact TQ_ret1 Try.results13 (RV.tmp rfl) (fun w' hs => ⟨rfl, hs.below⟩)
    · have hz3 : ¬ (goR R g).2.2 = 0 := fun h => by have := hz.1 h; omega
      repeat' (first | (refine TL_eql_t rfl rfl rfl hz1 ?_) | (refine TL_eql_t rfl rfl rfl hz2 ?_) | (refine TL_eql_f rfl rfl rfl hz3 ?_) | (refine TL_geq_t rfl rfl rfl ha1 ?_) | (refine TL_leq_f rfl rfl rfl ha2 ?_) | (refine TL_eqlB rfl rfl rfl rfl ?_) | refine r1 ?_ | (apply TL_box; exact rfl; exact rfl; exact rfl; intro _ _) | (apply TL_alloc; exact rfl; intro _ _) | (apply TL_buildSlice; exact rfl; exact rfl; exact rfl; exact rfl; exact rfl; intro _ _))
      exact TQ_ret1 Try.results13 (RV.tmp rfl) (fun w' hs => ⟨rfl, hs.below⟩)
  · have hz3 : ¬ (goR R g).2.2 = 0 := fun h => by have := hz.1 h; omega
    repeat' (first | (refine TL_eql_t rfl rfl rfl hz1 ?_) | (refine TL_eql_t rfl rfl rfl hz2 ?_) | (refine TL_eql_f rfl rfl rfl hz3 ?_) | (refine TL_geq_f rfl rfl rfl ha1 ?_) | (refine TL_eqlB rfl rfl rfl rfl ?_) | refine r1 ?_ | (apply TL_box; exact rfl; exact rfl; exact rfl; intro _ _) | (apply TL_alloc; exact rfl; intro _ _) | (apply TL_buildSlice; exact rfl; exact rfl; exact rfl; exact rfl; exact rfl; intro _ _))
    exact TQ_ret1 Try.results13 (RV.tmp rfl) (fun w' hs => ⟨rfl, hs.below⟩)
end Go.Proofs.Ytccgplomnjpniaa
