/- Walks: aflajref08.Round. -/
import Derived.Test.YtccgplomnjpniaaD1
import Derived.Test.YtccgplomnjpniaaDS
namespace Go.Proofs.Ytccgplomnjpniaa
open Go Go.Eng Go.RowKit Go.Proofs
set_option maxHeartbeats 1000000
set_option maxRecDepth 10000
attribute [local irreducible] TL TC TQ

theorem c44 (R : Rd) (ao : Option Addr) (c : Nat) (hl : R.seas.length ≤ 4611686018427387904) (w : World) (ha : Sl w 3 encSn ao R.seas) :
    Calls Try.prog 44 #[.agg (encRd R ao c).toArray] w (RetV w (.bool (decide (OkRd R)))) := by
  refine enter (args := [.agg (encRd R ao c).toArray]) Try.func44 rfl Try.ntmps44 rfl (SH.refl _) ?_
  repeat' (first | refine rn ?_ | (apply TL_box; exact rfl; exact rfl; exact rfl; intro _ _) | (apply TL_alloc; exact rfl; intro _ _) | (apply TL_buildSlice; exact rfl; exact rfl; exact rfl; exact rfl; exact rfl; intro _ _))
  refine TL_callV rfl rfl rfl (fun w _ => c68 _ _ _ w) ?_
  repeat' (first | refine rn ?_ | (apply TL_box; exact rfl; exact rfl; exact rfl; intro _ _) | (apply TL_alloc; exact rfl; intro _ _) | (apply TL_buildSlice; exact rfl; exact rfl; exact rfl; exact rfl; exact rfl; intro _ _))
  refine TL_gsplit_dec rfl rfl (fun g1 => ?_) (fun g1 => ?_)
  · repeat' (first | refine rn ?_ | (apply TL_box; exact rfl; exact rfl; exact rfl; intro _ _) | (apply TL_alloc; exact rfl; intro _ _) | (apply TL_buildSlice; exact rfl; exact rfl; exact rfl; exact rfl; exact rfl; intro _ _))
    refine TQ_ret1 Try.results44 (RV.tmp rfl) (fun w' hs => RetV.no (fun h => ?_) hs.below); obtain ⟨h1, h2, h3, h4, h5, h6, h7⟩ := h; exact g1 h1
  repeat' (first | refine rn ?_ | (apply TL_box; exact rfl; exact rfl; exact rfl; intro _ _) | (apply TL_alloc; exact rfl; intro _ _) | (apply TL_buildSlice; exact rfl; exact rfl; exact rfl; exact rfl; exact rfl; intro _ _))
  refine TL_callV rfl rfl rfl (fun w _ => c68 _ _ _ w) ?_
  repeat' (first | refine rn ?_ | (apply TL_box; exact rfl; exact rfl; exact rfl; intro _ _) | (apply TL_alloc; exact rfl; intro _ _) | (apply TL_buildSlice; exact rfl; exact rfl; exact rfl; exact rfl; exact rfl; intro _ _))
  refine TL_gsplit_dec rfl rfl (fun g2 => ?_) (fun g2 => ?_)
  · repeat' (first | refine rn ?_ | (apply TL_box; exact rfl; exact rfl; exact rfl; intro _ _) | (apply TL_alloc; exact rfl; intro _ _) | (apply TL_buildSlice; exact rfl; exact rfl; exact rfl; exact rfl; exact rfl; intro _ _))
    refine TQ_ret1 Try.results44 (RV.tmp rfl) (fun w' hs => RetV.no (fun h => ?_) hs.below); obtain ⟨h1, h2, h3, h4, h5, h6, h7⟩ := h; exact g2 h2
  repeat' (first | refine rn ?_ | (apply TL_box; exact rfl; exact rfl; exact rfl; intro _ _) | (apply TL_alloc; exact rfl; intro _ _) | (apply TL_buildSlice; exact rfl; exact rfl; exact rfl; exact rfl; exact rfl; intro _ _))
  refine TL_callV rfl rfl rfl (fun w _ => c68 _ _ _ w) ?_
  repeat' (first | refine rn ?_ | (apply TL_box; exact rfl; exact rfl; exact rfl; intro _ _) | (apply TL_alloc; exact rfl; intro _ _) | (apply TL_buildSlice; exact rfl; exact rfl; exact rfl; exact rfl; exact rfl; intro _ _))
  refine TL_gsplit_dec rfl rfl (fun g3 => ?_) (fun g3 => ?_)
  · repeat' (first | refine rn ?_ | (apply TL_box; exact rfl; exact rfl; exact rfl; intro _ _) | (apply TL_alloc; exact rfl; intro _ _) | (apply TL_buildSlice; exact rfl; exact rfl; exact rfl; exact rfl; exact rfl; intro _ _))
    refine TQ_ret1 Try.results44 (RV.tmp rfl) (fun w' hs => RetV.no (fun h => ?_) hs.below); obtain ⟨h1, h2, h3, h4, h5, h6, h7⟩ := h; exact g3 h3
  repeat' (first | refine rn ?_ | (apply TL_box; exact rfl; exact rfl; exact rfl; intro _ _) | (apply TL_alloc; exact rfl; intro _ _) | (apply TL_buildSlice; exact rfl; exact rfl; exact rfl; exact rfl; exact rfl; intro _ _))
  refine TL_callV rfl rfl rfl (fun w _ => c68 _ _ _ w) ?_
  repeat' (first | refine rn ?_ | (apply TL_box; exact rfl; exact rfl; exact rfl; intro _ _) | (apply TL_alloc; exact rfl; intro _ _) | (apply TL_buildSlice; exact rfl; exact rfl; exact rfl; exact rfl; exact rfl; intro _ _))
  refine TL_gsplit_dec rfl rfl (fun g4 => ?_) (fun g4 => ?_)
  · repeat' (first | refine rn ?_ | (apply TL_box; exact rfl; exact rfl; exact rfl; intro _ _) | (apply TL_alloc; exact rfl; intro _ _) | (apply TL_buildSlice; exact rfl; exact rfl; exact rfl; exact rfl; exact rfl; intro _ _))
    refine TQ_ret1 Try.results44 (RV.tmp rfl) (fun w' hs => RetV.no (fun h => ?_) hs.below); obtain ⟨h1, h2, h3, h4, h5, h6, h7⟩ := h; exact g4 h4
  repeat' (first | refine rn ?_ | (apply TL_box; exact rfl; exact rfl; exact rfl; intro _ _) | (apply TL_alloc; exact rfl; intro _ _) | (apply TL_buildSlice; exact rfl; exact rfl; exact rfl; exact rfl; exact rfl; intro _ _))
  refine TL_callV rfl rfl rfl (fun w _ => c68 _ _ _ w) ?_
  repeat' (first | refine rn ?_ | (apply TL_box; exact rfl; exact rfl; exact rfl; intro _ _) | (apply TL_alloc; exact rfl; intro _ _) | (apply TL_buildSlice; exact rfl; exact rfl; exact rfl; exact rfl; exact rfl; intro _ _))
  refine TL_gsplit_dec rfl rfl (fun g5 => ?_) (fun g5 => ?_)
  · repeat' (first | refine rn ?_ | (apply TL_box; exact rfl; exact rfl; exact rfl; intro _ _) | (apply TL_alloc; exact rfl; intro _ _) | (apply TL_buildSlice; exact rfl; exact rfl; exact rfl; exact rfl; exact rfl; intro _ _))
    refine TQ_ret1 Try.results44 (RV.tmp rfl) (fun w' hs => RetV.no (fun h => ?_) hs.below); obtain ⟨h1, h2, h3, h4, h5, h6, h7⟩ := h; exact g5 h5
  repeat' (first | refine rn ?_ | (apply TL_box; exact rfl; exact rfl; exact rfl; intro _ _) | (apply TL_alloc; exact rfl; intro _ _) | (apply TL_buildSlice; exact rfl; exact rfl; exact rfl; exact rfl; exact rfl; intro _ _))
  rename_i b hb
  refine TC_cond_dec rfl (fun g6 => ?_) (fun g6 => ?_)
  · repeat' (first | refine rn ?_ | (apply TL_box; exact rfl; exact rfl; exact rfl; intro _ _) | (apply TL_alloc; exact rfl; intro _ _) | (apply TL_buildSlice; exact rfl; exact rfl; exact rfl; exact rfl; exact rfl; intro _ _))
    refine TQ_ret1 Try.results44 (RV.tmp rfl) (fun w' hs => RetV.no (fun h => ?_) hs.below); obtain ⟨h1, h2, h3, h4, h5, h6, h7⟩ := h; omega
  repeat' (first | refine rn ?_ | (apply TL_box; exact rfl; exact rfl; exact rfl; intro _ _) | (apply TL_alloc; exact rfl; intro _ _) | (apply TL_buildSlice; exact rfl; exact rfl; exact rfl; exact rfl; exact rfl; intro _ _))
  refine TC_loop (σ := Nat) (fun k => k ≤ R.seas.length ∧ ∀ i x, i < k → R.seas[i]? = some x → Ord x.1 0 1000000 ∧ In x.2 0 1000000) (fun k => [(1, .pointer (some ⟨b, 0, none⟩)), (3, .int .i64 k)]) (fun k => [(b, .cells (encRd R ao c) 26)]) (fun k => R.seas.length - k) 0 ⟨Nat.zero_le _, fun i x h => by omega⟩ sb (fun w h => h) (fun k hk => ?_)
  repeat' (first | refine rn ?_ | (apply TL_box; exact rfl; exact rfl; exact rfl; intro _ _) | (apply TL_alloc; exact rfl; intro _ _) | (apply TL_buildSlice; exact rfl; exact rfl; exact rfl; exact rfl; exact rfl; intro _ _))
  refine TC_cond_dec rfl (fun h1 => ?_) (fun h1 => ?_)
  · have hlt : k < R.seas.length := by omega
    obtain ⟨x, hx⟩ : ∃ x, R.seas[k]? = some x := ⟨_, List.getElem?_eq_getElem hlt⟩
    have hxm : x ∈ R.seas := List.mem_of_getElem? hx
    have hne : R.seas ≠ [] := by intro h; simp [h] at hlt
    repeat' (first | refine rn ?_ | (apply TL_box; exact rfl; exact rfl; exact rfl; intro _ _) | (apply TL_alloc; exact rfl; intro _ _) | (apply TL_buildSlice; exact rfl; exact rfl; exact rfl; exact rfl; exact rfl; intro _ _))
    refine TL_index k rfl rfl rfl (fun w h => h.sl ha) rfl hlt (Nat.le_refl _) ?_
    refine TL_fieldAddr_el rfl rfl (fun w h => h.sl ha) hne ?_
    refine TL_load_eln rfl rfl (fun w h => h.sl ha) hx rfl ?_
    refine TL_callV rfl rfl rfl (fun w _ => c68 x.1 _ _ w) ?_
    repeat' (first | refine rn ?_ | (apply TL_box; exact rfl; exact rfl; exact rfl; intro _ _) | (apply TL_alloc; exact rfl; intro _ _) | (apply TL_buildSlice; exact rfl; exact rfl; exact rfl; exact rfl; exact rfl; intro _ _))
    refine TL_gsplit_dec rfl rfl (fun g7 => ?_) (fun g7 => ?_)
    · repeat' (first | refine rn ?_ | (apply TL_box; exact rfl; exact rfl; exact rfl; intro _ _) | (apply TL_alloc; exact rfl; intro _ _) | (apply TL_buildSlice; exact rfl; exact rfl; exact rfl; exact rfl; exact rfl; intro _ _))
      refine TQ_ret1 Try.results44 (RV.tmp rfl) (fun w' hs => RetV.no (fun h => ?_) hs.below); obtain ⟨h1, h2, h3, h4, h5, h6, h7⟩ := h
      exact g7 (h7 _ hxm).1
    repeat' (first | refine rn ?_ | (apply TL_box; exact rfl; exact rfl; exact rfl; intro _ _) | (apply TL_alloc; exact rfl; intro _ _) | (apply TL_buildSlice; exact rfl; exact rfl; exact rfl; exact rfl; exact rfl; intro _ _))
    refine TL_index k rfl rfl rfl (fun w h => h.sl ha) rfl hlt (Nat.le_refl _) ?_
    repeat' (first | refine rn ?_ | (apply TL_box; exact rfl; exact rfl; exact rfl; intro _ _) | (apply TL_alloc; exact rfl; intro _ _) | (apply TL_buildSlice; exact rfl; exact rfl; exact rfl; exact rfl; exact rfl; intro _ _))
    refine TL_fieldAddr_el rfl rfl (fun w h => h.sl ha) hne ?_
    repeat' (first | refine rn ?_ | (apply TL_box; exact rfl; exact rfl; exact rfl; intro _ _) | (apply TL_alloc; exact rfl; intro _ _) | (apply TL_buildSlice; exact rfl; exact rfl; exact rfl; exact rfl; exact rfl; intro _ _))
    refine TL_load_el1 rfl rfl (fun w h => h.sl ha) hx rfl ?_
    repeat' (first | refine rn ?_ | (apply TL_box; exact rfl; exact rfl; exact rfl; intro _ _) | (apply TL_alloc; exact rfl; intro _ _) | (apply TL_buildSlice; exact rfl; exact rfl; exact rfl; exact rfl; exact rfl; intro _ _))
    refine TL_callV rfl rfl rfl (fun w _ => c48 _ _ _ w) ?_
    repeat' (first | refine rn ?_ | (apply TL_box; exact rfl; exact rfl; exact rfl; intro _ _) | (apply TL_alloc; exact rfl; intro _ _) | (apply TL_buildSlice; exact rfl; exact rfl; exact rfl; exact rfl; exact rfl; intro _ _))
    refine TC_cond_dec rfl (fun g8 => ?_) (fun g8 => ?_)
    · repeat' (first | refine rn ?_ | (apply TL_box; exact rfl; exact rfl; exact rfl; intro _ _) | (apply TL_alloc; exact rfl; intro _ _) | (apply TL_buildSlice; exact rfl; exact rfl; exact rfl; exact rfl; exact rfl; intro _ _))
      refine TQ_ret1 Try.results44 (RV.tmp rfl) (fun w' hs => RetV.no (fun h => ?_) hs.below); obtain ⟨h1, h2, h3, h4, h5, h6, h7⟩ := h
      exact g8 (h7 _ hxm).2
    repeat' (first | refine rn ?_ | (apply TL_box; exact rfl; exact rfl; exact rfl; intro _ _) | (apply TL_alloc; exact rfl; intro _ _) | (apply TL_buildSlice; exact rfl; exact rfl; exact rfl; exact rfl; exact rfl; intro _ _))
    refine TQ_round (k + 1) ⟨by omega, fun i y hi hx' => ?_⟩ (by omega) sb (fun w h => h)
    rcases Nat.lt_or_ge i k with h | h
    · exact hk.2 i y h hx'
    · have : i = k := by omega
      subst this
      rw [hx] at hx'; cases hx'
      exact ⟨Classical.not_not.1 g7, Classical.not_not.1 g8⟩
  · repeat' (first | refine rn ?_ | (apply TL_box; exact rfl; exact rfl; exact rfl; intro _ _) | (apply TL_alloc; exact rfl; intro _ _) | (apply TL_buildSlice; exact rfl; exact rfl; exact rfl; exact rfl; exact rfl; intro _ _))
    refine TQ_ret1 Try.results44 (RV.tmp rfl) (fun w' hs => RetV.yes ((⟨Classical.not_not.1 g1, Classical.not_not.1 g2, Classical.not_not.1 g3, Classical.not_not.1 g4, Classical.not_not.1 g5, by omega, fun x hx => ?_⟩ : OkRd R)) hs.below)
    obtain ⟨i, hi, rfl⟩ := List.getElem_of_mem hx
    exact hk.2 i _ (by omega) (by simp [hi])
end Go.Proofs.Ytccgplomnjpniaa
/- Walks: aflajref08.run, Go, Goats. -/
namespace Go.Proofs.Ytccgplomnjpniaa
open Go Go.Eng Go.RowKit Go.Proofs
set_option maxHeartbeats 1000000
set_option maxRecDepth 10000
attribute [local irreducible] TL TC TQ

/-- What a run hands back: its row of states, and the place and the error. -/
def runV (o : List St × Nat × Int) (q : Option Addr × Nat × Hp) : Value := .tuple #[.slice q.1 o.1.length q.2.1, .int .i64 o.2.1, .int .i64 o.2.2]
def RunP (o : List St × Nat × Int) (q : Option Addr × Nat × Hp) : Prop := Row 97 4 encSt q.1 q.2.1 q.2.2 o.1

theorem c49 (R : Rd) (g : Int) (ao : Option Addr) (c : Nat) (hR : OkRun R) (hg : In g 0 1000) (w : World) (ha : Sl w 3 encSn ao R.seas) :
    Calls Try.prog 49 #[.agg (encRd R ao c).toArray, .int .i64 g] w (RetP w.heap.size w (runV (runAll R g)) (fun q => q.2.2) (RunP (runAll R g))) := by
  have hlen : R.seas.length ≤ 20 := hR.2.2.2.2.2.1
  refine enter (args := [.agg (encRd R ao c).toArray, .int .i64 g]) Try.func49 rfl Try.ntmps49 rfl (SH.refl _) ?_
  repeat' (first | refine rn ?_ | (apply TL_box; exact rfl; exact rfl; exact rfl; intro _ _) | (apply TL_alloc; exact rfl; intro _ _) | (apply TL_buildSlice; exact rfl; exact rfl; exact rfl; exact rfl; exact rfl; intro _ _))
  rename_i b2 _ b7 _
  refine TC_loop (σ := Nat × St × List St × Option Addr × Nat × Hp) (fun q => q.1 ≤ R.seas.length ∧ q.2.2.1.length = q.1 ∧ Bd q.1 q.2.1 ∧ runR R g (R.seas.drop q.1) q.1 q.2.1 q.2.2.1 = runAll R g ∧ Row 97 4 encSt q.2.2.2.1 q.2.2.2.2.1 q.2.2.2.2.2 q.2.2.1)
    (fun q => [(1, .int .i64 g), (2, .pointer (some ⟨b2, 0, none⟩)), (7, .pointer (some ⟨b7, 0, none⟩)), (8, .slice q.2.2.2.1 q.2.2.1.length q.2.2.2.2.1), (9, .int .i64 q.1)])
    (fun q => q.2.2.2.2.2 ++ [(b7, .cells (encSt q.2.1) 97), (b2, .cells (encRd R ao c) 26)]) (fun q => R.seas.length - q.1) (0, (R.fod, R.dung), [], none, 0, [])
    ⟨Nat.zero_le _, rfl, ?_, rfl, Row.nil _ _ _⟩ sb (fun w h => h) ?_
  · obtain ⟨h1, h2, h3⟩ := hR
    simp only [Ord, Bd] at *
    omega
  rintro ⟨k, s, acc, so, sc, ob⟩ ⟨hk, hacc, hbd, hrun, hrow⟩
  dsimp only at hk hacc hbd hrun hrow ⊢
  repeat' (first | refine rn ?_ | (apply TL_box; exact rfl; exact rfl; exact rfl; intro _ _) | (apply TL_alloc; exact rfl; intro _ _) | (apply TL_buildSlice; exact rfl; exact rfl; exact rfl; exact rfl; exact rfl; intro _ _))
  refine TC_cond_dec rfl (fun h1 => ?_) (fun h1 => ?_)
  · have hlt : k < R.seas.length := by omega
    obtain ⟨x, hx⟩ : ∃ x, R.seas[k]? = some x := ⟨_, List.getElem?_eq_getElem hlt⟩
    have hxm : x ∈ R.seas := List.mem_of_getElem? hx
    have hp := prods hR hg hxm
    have hdrop : R.seas.drop k = x :: R.seas.drop (k + 1) := by
      rw [List.drop_eq_getElem_cons hlt]; congr 1
      rw [List.getElem?_eq_getElem hlt] at hx; cases hx; rfl
    rw [hdrop, runR] at hrun
    have hstep := fun s' => hbd.step (s' := s') hp
    obtain ⟨pb1, pb2, pe1, pe2, pg1, pg2, pr1, pr2, psp⟩ := hp
    obtain ⟨q1, q2, q3, q4⟩ := hbd
    repeat' (first | refine rn ?_ | (apply TL_box; exact rfl; exact rfl; exact rfl; intro _ _) | (apply TL_alloc; exact rfl; intro _ _) | (apply TL_buildSlice; exact rfl; exact rfl; exact rfl; exact rfl; exact rfl; intro _ _))
    refine TL_index k rfl rfl rfl (fun w h => h.sl ha) rfl hlt (Nat.le_refl _) ?_
    refine TL_load_eln rfl rfl (fun w h => h.sl ha) hx rfl ?_
    repeat' (first | refine rn ?_ | (apply TL_box; exact rfl; exact rfl; exact rfl; intro _ _) | (apply TL_alloc; exact rfl; intro _ _) | (apply TL_buildSlice; exact rfl; exact rfl; exact rfl; exact rfl; exact rfl; intro _ _))
    refine TC_cond_dec rfl (fun h2 => ?_) (fun h2 => ?_)
    · repeat' (first | refine rn ?_ | (apply TL_box; exact rfl; exact rfl; exact rfl; intro _ _) | (apply TL_alloc; exact rfl; intro _ _) | (apply TL_buildSlice; exact rfl; exact rfl; exact rfl; exact rfl; exact rfl; intro _ _))
      have hs : stepR R g s x = .inl 85 := by simp [stepR, h2]
      rw [hs] at hrun
      refine TQ_ret3 Try.results49 (RV.tmp rfl) (RV.tmp rfl) (RV.tmp rfl) (fun w' hs => ⟨(none, 0, []), ?_, ?_, hs.sub (List.nil_sublist _)⟩)
      · rw [← hrun]; exact Row.nil _ _ _
      · rw [← hrun]; rfl
    repeat' (first | refine rn ?_ | (apply TL_box; exact rfl; exact rfl; exact rfl; intro _ _) | (apply TL_alloc; exact rfl; intro _ _) | (apply TL_buildSlice; exact rfl; exact rfl; exact rfl; exact rfl; exact rfl; intro _ _))
    apply TC_draw 8; kernel_rfl; exact Try.mixed
    · iterate 4 (refine' pv ?_; rotate_left)
      (refine' PG.val rfl rfl (by intro _X; refine TL_callV rfl rfl rfl (fun w _ => c74 s.1 x.1 w (by omega) (by omega) (by omega) (by omega)) ?_; exact qe) ?_; rotate_left)
      (refine' pv ?_; rotate_left)
      (refine' PG.val rfl rfl (by intro _X; refine TL_callV rfl rfl rfl (fun w _ => c74 (s.1.1 + x.1.1, s.1.2 + x.1.2) (_, _) w (by omega) (by omega) (by omega) (by omega)) ?_; exact qe) ?_; rotate_left)
      (refine' PG.rel ((fun v h => ∃ b, v = .pointer (some ⟨b, 0, none⟩) ∧ h = [(b, .cells [.int .i64 0, .int .i64 0] 23)])) rfl rfl (by intro _X; apply TL_alloc; exact rfl; intro b _; apply TL_nil; exact TQ_QR (h := [(b, _)]) rfl ⟨b, rfl, rfl⟩ (fun _ h => h)) ?_; rotate_left)
      exact PG.nil
    rintro _ _ ⟨b12, rfl, rfl⟩
    change TL _ _ _ _ _ _ _ _ _ _ _
    repeat' (first | refine rn ?_ | (apply TL_box; exact rfl; exact rfl; exact rfl; intro _ _) | (apply TL_alloc; exact rfl; intro _ _) | (apply TL_buildSlice; exact rfl; exact rfl; exact rfl; exact rfl; exact rfl; intro _ _))
    refine TC_cond_dec rfl (fun h3 => ?_) (fun h3 => ?_)
    · repeat' (first | refine rn ?_ | (apply TL_box; exact rfl; exact rfl; exact rfl; intro _ _) | (apply TL_alloc; exact rfl; intro _ _) | (apply TL_buildSlice; exact rfl; exact rfl; exact rfl; exact rfl; exact rfl; intro _ _))
      have hs : stepR R g s x = .inl 84 := by
        unfold stepR; rw [if_neg h2, if_pos h3]
      rw [hs] at hrun
      refine TQ_ret3 Try.results49 (RV.tmp rfl) (RV.tmp rfl) (RV.tmp rfl) (fun w' hs => ⟨(none, 0, []), ?_, ?_, hs.sub (List.nil_sublist _)⟩)
      · rw [← hrun]; exact Row.nil _ _ _
      · rw [← hrun]; rfl
    repeat' (first | refine rn ?_ | (apply TL_box; exact rfl; exact rfl; exact rfl; intro _ _) | (apply TL_alloc; exact rfl; intro _ _) | (apply TL_buildSlice; exact rfl; exact rfl; exact rfl; exact rfl; exact rfl; intro _ _))
    have hs : stepR R g s x = .inr (nextR R g s x) := by
      unfold stepR; rw [if_neg h2, if_neg h3]
    rw [hs] at hrun
    rename_i b15 _
    refine TL_cut (σ := Unit) (fun _ => True) (fun _ => [(1, .int .i64 g), (2, .pointer (some ⟨b2, 0, none⟩)), (7, .pointer (some ⟨b7, 0, none⟩)), (9, .int .i64 k), (113, .slice so acc.length sc), (115, .slice (some ⟨b15, 0, none⟩) 1 1)])
      (fun _ => (b15, .cells (encSt (nextR R g s x)) 97) :: (ob ++ [(b7, .cells (encSt (nextR R g s x)) 97), (b2, .cells (encRd R ao c) 26)])) () trivial sb (fun w h => h.sub ?_) (fun _ _ => ?_)
    · refine List.Sublist.cons_cons _ ?_
      repeat (first | exact List.Sublist.refl _ | refine List.Sublist.append_left ?_ _ | apply List.Sublist.cons_cons | apply List.Sublist.cons)
    refine TL_append (l := acc) (l2 := [nextR R g s x]) (enc := encSt) (G := _) rfl (by rfl) rfl rfl rfl rfl rfl hrow (pm_cons pm_here) (fun w h => Sl.of_blk h mm (fun x hx => by simp [encSt]) ⟨[], by rfl⟩) (fun u hu => rfl) (by simp only [List.length_singleton]; omega) (by simp only [List.length_singleton, maxLen]; omega) (fun so' sc' ob' hrow' => ?_)
    repeat' (first | refine rn ?_ | (apply TL_box; exact rfl; exact rfl; exact rfl; intro _ _) | (apply TL_alloc; exact rfl; intro _ _) | (apply TL_buildSlice; exact rfl; exact rfl; exact rfl; exact rfl; exact rfl; intro _ _))
    refine TQ_round (k + 1, nextR R g s x, acc ++ [nextR R g s x], so', sc', ob') ⟨by simp only []; omega, by simp [hacc], hstep _ hs, hrun, hrow'⟩ (by simp only []; omega) sb (fun w h => h.sub (List.Sublist.append_left sl _))
  · have hkl : k = R.seas.length := by omega
    subst hkl
    rw [List.drop_length, runR] at hrun
    repeat' (first | refine rn ?_ | (apply TL_box; exact rfl; exact rfl; exact rfl; intro _ _) | (apply TL_alloc; exact rfl; intro _ _) | (apply TL_buildSlice; exact rfl; exact rfl; exact rfl; exact rfl; exact rfl; intro _ _))
    refine TQ_ret3 Try.results49 (RV.tmp rfl) (RV.tmp rfl) (RV.tmp rfl) (fun w' hs => ⟨(so, sc, ob), ?_, ?_, hs.sub (List.sublist_append_left _ _)⟩)
    · rw [← hrun]; exact hrow
    · rw [← hrun]; rfl
end Go.Proofs.Ytccgplomnjpniaa
