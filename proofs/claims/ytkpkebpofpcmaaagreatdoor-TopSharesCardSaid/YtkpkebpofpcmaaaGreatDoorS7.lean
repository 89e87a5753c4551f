/- Walks: deeds of all kinds; until and At for all rolls and deeds. -/
import Derived.Test.YtkpkebpofpcmaaaGreatDoorD17
import Derived.Test.YtkpkebpofpcmaaaGreatDoorS6
namespace Go.Proofs.YtkpkebpofpcmaaaGreatDoor
open Go Go.Eng Go.RowKit Go.Proofs
set_option maxHeartbeats 4000000
set_option maxRecDepth 10000
attribute [local irreducible] TL TC TQ

def doG : DoF := fun d pcs dead => if d.kind = 3 then deathM d pcs dead else if d.kind = 1 then ((giveM d d.to pcs).1, (giveM d d.to pcs).2, dead) else if d.kind = 2 then ((giveM d 0 pcs).1, (giveM d 0 pcs).2, dead) else ((rentM d pcs).1, (rentM d pcs).2, dead)
theorem giveM_ch {e to : Int} {d : Dd} {pcs : List Pc} (h : chP e 0 pcs) (ht : Tn d.turn 0 e) : chP e 0 (giveM d to pcs).2 := by
  obtain ⟨A, M, C, h3⟩ := split3 h ht
  unfold giveM
  split
  · exact chP_setT (f := setOwn to) (fun _ => rfl) h3.ch
  · exact h3.ch
theorem rentM_chG {e : Int} {d : Dd} {pcs : List Pc} (h : chP e 0 pcs) (ht : Tn d.turn 0 e) : chP e 0 (rentM d pcs).2 := by
  obtain ⟨A, M, C, h3⟩ := split3 h ht
  unfold rentM
  split
  · split
    · exact h3.ch
    · exact chP_setT (f := setLet d) (fun _ => rfl) h3.ch
  · exact h3.ch
theorem heirsB_ok (fr : Int) : ∀ (l : List Sp) (last : Int), heirsB fr last l = true → ∀ h ∈ l, h.1 ≠ fr ∧ 1 ≤ h.2 ∧ h.2 ≤ 1000
  | [], _, _, h, hm => by cases hm
  | x :: l, last, hh, h, hm => by
    simp only [heirsB, Bool.and_eq_true, decide_eq_true_eq] at hh
    obtain ⟨⟨_, h2, h3⟩, h4⟩ := hh
    rcases List.mem_cons.1 hm with rfl | hm
    · exact ⟨h2, h3.1, h3.2⟩
    · exact heirsB_ok fr l x.1 h4 h hm
theorem deathM_ch {e : Int} {d : Dd} {pcs : List Pc} {dead : Int → Bool} (h : chP e 0 pcs) (hne : d.heirs ≠ []) (hh8 : d.heirs.length ≤ 8) (hhp : ∀ h ∈ d.heirs, h.1 ≠ d.fr ∧ 1 ≤ h.2 ∧ h.2 ≤ 1000) (hfr : d.fr ≠ 0) : chP e 0 (deathM d pcs dead).2.1 := by
  have okH : OkH (heirsM d (deadU d dead)) := by
    unfold heirsM
    split
    · exact ⟨by simp, by simp, by simp⟩
    · rename_i h1
      exact ⟨h1, Nat.le_trans (List.length_filter_le _ _) hh8, fun h hm => (hhp h (List.mem_filter.1 hm).1).2⟩
  have hHw : ∀ h ∈ heirsM d (deadU d dead), h.1 ≠ d.fr := by
    unfold heirsM
    split
    · intro h hm; rw [List.mem_singleton.1 hm]; exact fun e => hfr e.symm
    · intro h hm; exact (hhp h (List.mem_filter.1 hm).1).1
  have hnn := (ownS_nn (fr := d.fr) h).1
  have hdl := divM_len (ownS d.fr pcs) (heirsM d (deadU d dead))
  unfold deathM
  dsimp only
  refine gvAll_ok _ _ (fun x hx => ?_) (chP_map (unlet_turn d.fr) h) ?_
  · obtain ⟨h1, h2⟩ := List.of_mem_zip hx
    obtain ⟨y, hy, e1⟩ := List.mem_map.1 h1
    exact ⟨by rw [← e1]; exact hHw y hy, div_nn okH hnn x.2 h2⟩
  · rw [ownS_unlet, List.map_snd_zip (by rw [List.length_map, hdl]; exact Nat.le_refl _), div_sum okH]
theorem doG_ok {r : Ro} (hr : OkRo r) {d : Dd} (hv : validB r d = true) : DoOK r doG d := by
  have he := (endR_eq hr).2.1
  unfold validB at hv
  cases hk : kfl d.kind with
  | none => rw [hk] at hv; cases hv
  | some q =>
    rw [hk] at hv
    simp only [Bool.and_eq_true, decide_eq_true_eq, flagB] at hv
    obtain ⟨⟨_, _, hfr⟩, h1, h2, h3, h4⟩ := hv
    unfold kfl at hk
    split at hk
    · rename_i k4
      cases hk
      have ht : Tn d.turn 0 (endR r) := by simpa [tuV] using h2
      refine ⟨true, true, true, false, 159, by rw [k4]; rfl, inferInstance, fun pcs dead hch => ?_⟩
      have e : doG d pcs dead = ((rentM d pcs).1, (rentM d pcs).2, dead) := by unfold doG; rw [if_neg (by omega), if_neg (by omega), if_neg (by omega)]
      rw [e]
      exact ⟨rentM_chG hch ht, fun B w0 G b bm x w _ hok hs => c159 r b bm x pcs dead d (endR r) hok hch (by omega) ht w hs⟩
    · split at hk
      · rename_i k3
        cases hk
        have hi : inhB d.fr d.heirs = true := by simpa [heV] using h4
        unfold inhB at hi
        simp only [Bool.and_eq_true, decide_eq_true_eq] at hi
        obtain ⟨hi1, hi2, hi3⟩ := hi
        have hne : d.heirs ≠ [] := fun e => by rw [e] at hi2; simp at hi2
        have hhp := heirsB_ok d.fr d.heirs 0 hi1
        have hf0 : d.fr ≠ 0 := by have := hfr.1; omega
        refine ⟨false, false, false, true, 158, by rw [k3]; rfl, inferInstance, fun pcs dead hch => ?_⟩
        have e : doG d pcs dead = deathM d pcs dead := by unfold doG; rw [if_pos k3]
        rw [e]
        exact ⟨deathM_ch hch hne (by omega) hhp hf0, fun B w0 G b bm x w hHI hok hs => c158 r b bm x pcs dead d (endR r) hok hch (by omega) hne (by omega) hhp hf0 hHI w hs⟩
      · split at hk
        · rename_i k2
          cases hk
          have ht : Tn d.turn 0 (endR r) := by simpa [tuV] using h2
          refine ⟨false, true, false, false, 157, by rw [k2]; rfl, inferInstance, fun pcs dead hch => ?_⟩
          have e : doG d pcs dead = ((giveM d 0 pcs).1, (giveM d 0 pcs).2, dead) := by unfold doG; rw [if_neg (by omega), if_neg (by omega), if_pos k2]
          rw [e]
          exact ⟨giveM_ch hch ht, fun B w0 G b bm x w _ hok hs => c157 r b bm x pcs dead d (endR r) hok hch (by omega) ht w hs⟩
        · split at hk
          · rename_i k1
            cases hk
            have ht : Tn d.turn 0 (endR r) := by simpa [tuV] using h2
            refine ⟨true, true, false, false, 156, by rw [k1]; rfl, inferInstance, fun pcs dead hch => ?_⟩
            have e : doG d pcs dead = ((giveM d d.to pcs).1, (giveM d d.to pcs).2, dead) := by unfold doG; rw [if_neg (by omega), if_pos k1]
            rw [e]
            exact ⟨giveM_ch hch ht, fun B w0 G b bm x w _ hok hs => c156 r b bm x pcs dead d (endR r) hok hch (by omega) ht w hs⟩
          · cases hk
def srtD (l : List Dd) : List Dd := stableM (ltC cmpD) l
theorem srtD_mem (a : List Dd) : ∀ x ∈ srtD a, x ∈ a := (stableM_keeps _ a).mem
theorem srtD_len (a : List Dd) : (srtD a).length = a.length := (stableM_keeps _ a).len
theorem srtD_er (a : List Dd) : (srtD a).map er = srtD (a.map er) := stableM_map (lt := ltC cmpD) (lt' := ltC cmpD) (g := er) (fun _ _ => rfl) a
theorem onceM_mem : ∀ (l acc z : List Dd), onceM acc l = some z → ∀ x ∈ z, x ∈ acc ∨ ∃ y ∈ l, x = er y
  | [], acc, z, h, x, hx => by simp [onceM] at h; subst h; exact .inl hx
  | y :: l, acc, z, h, x, hx => by
    rw [onceM] at h
    split at h
    · split at h
      · rcases onceM_mem l _ z h x hx with h1 | ⟨u, hu, e⟩
        · exact .inl h1
        · exact .inr ⟨u, List.mem_cons_of_mem _ hu, e⟩
      · cases h
    · rcases onceM_mem l _ z h x hx with h1 | ⟨u, hu, e⟩
      · rcases List.mem_append.1 h1 with h1 | h1
        · exact .inl h1
        · rw [List.mem_singleton.1 h1]; exact .inr ⟨y, List.mem_cons_self, rfl⟩
      · exact .inr ⟨u, List.mem_cons_of_mem _ hu, e⟩
theorem read_valid {r : Ro} {l : List Dd} {q : RdQ} (hq : ReadP srtD r l q) (h0 : q.e = 0) : ∀ d ∈ q.l, validB r d = true := by
  have h1 := hq.e
  have h2 := hq.l
  rw [h0] at h1
  have hro : chkRo r = 0 := by
    apply Classical.byContradiction
    intro g
    unfold readM at h1
    rw [if_pos g] at h1
    exact g h1.symm
  unfold readM at h1 h2
  rw [if_neg (by rw [hro]; simp)] at h1 h2
  split at h1
  · cases h1
  · rename_i g1
    rw [if_neg g1] at h2
    split at h1
    · cases h1
    · rename_i g2
      rw [if_neg g2] at h2
      split at h2
      · rename_i g3; rw [g3] at h1; cases h1
      · rename_i acc g3
        intro d hd
        dsimp only at h2
        have hm : er d ∈ srtD acc := by rw [← h2]; exact List.mem_map.2 ⟨d, hd, rfl⟩
        rcases onceM_mem l [] acc g3 _ (srtD_mem acc _ hm) with h | ⟨y, hy, e⟩
        · cases h
        · have hvy : validB r y = true := by
            cases hv : validB r y with
            | true => rfl
            | false => exact absurd (List.any_eq_true.2 ⟨y, hy, by rw [hv]; rfl⟩) g2
          have e1 : validB r d = validB r (er d) := rfl
          have e2 : validB r (er y) = validB r y := rfl
          rw [e1, e, e2]; exact hvy
def uM (r : Ro) (l : List Dd) (day : Int) : Int × PD := untilM srtD doG r l day
theorem c40g (r : Ro) (l : List Dd) (ao : Option Addr) (c : Nat) (day : Int) (w : World) (hr : Sl w 3 encHo r.ao r.holds) (hrn : Small r.holds.length) (hd : DdsAt w ao l) :
    Calls Tryz.prog 40 #[.agg (encRo r).toArray, .slice ao l.length c, .int .i64 day] w (RetP w.heap.size w (utV (uM r l day).1) (utH r (uM r l day).2.1.length) (utP (uM r l day).1 (uM r l day).2)) :=
  c40 srtD srtD doG (fun _ _ _ => rfl) r l ao c day w hr hrn hd srtD_mem srtD_len (fun acc _ hlen => ⟨srtD_er acc, fun B w0 so sc ob bs G w' hrow hs hm => c125 acc so sc ob bs (by omega) hrow hm w' hs⟩) (fun q hq h0 hro d hdq => doG_ok hro (read_valid hq h0 d hdq))
theorem c13g (r : Ro) (l : List Dd) (ao : Option Addr) (c : Nat) (day m : Int) (w : World) (hr : Sl w 3 encHo r.ao r.holds) (hrn : Small r.holds.length) (hd : DdsAt w ao l) :
    Calls Tryz.prog 13 #[.agg (encRo r).toArray, .slice ao l.length c, .int .i64 day, .int .i64 m] w (RetV w (.tuple #[.int .i64 (atM (uM r l day) day m).1, .int .i64 (atM (uM r l day) day m).2.1, .int .i64 (atM (uM r l day) day m).2.2])) :=
  c13 (uM r l day) r l ao c day m w (fun w' hb => c40g r l ao c day w' (hr.mono hb) hrn ⟨hd.s.mono hb, fun x hx => (hd.h x hx).mono hb, hd.n, hd.hn⟩)
/-- What the pieces are, where all goes well. -/
theorem runB_ch {r : Ro} {day : Int} : ∀ (l : List Dd) (s : PD), (∀ d ∈ l, DoOK r doG d) → chP (endR r) 0 s.1 → chP (endR r) 0 (runB doG day l s).1
  | [], s, _, h => h
  | d :: l, s, hd, h => by
    rw [runB]
    refine runB_ch l _ (fun x hx => hd x (List.mem_cons_of_mem _ hx)) ?_
    split
    · exact stepB_ch (hd d List.mem_cons_self) h
    · exact h
theorem uM_ch {r : Ro} {l : List Dd} {day : Int} (h0 : (uM r l day).1 = 0) : OkRo r ∧ In day 0 100000 ∧ chP (endR r) 0 (uM r l day).2.1 := by
  unfold uM untilM at h0 ⊢
  split at h0
  · rename_i h1; exact absurd h0 h1
  · rename_i h1
    rw [if_neg h1]
    split at h0
    · cases h0
    · rename_i h2
      rw [if_neg h2]
      have h1' := Classical.not_not.1 h1
      have hro : OkRo r := by
        apply Classical.byContradiction
        intro g
        have : (readM srtD r l).1 = 40 := by unfold readM; rw [if_pos (by rw [chkRo_no g]; decide), chkRo_no g]
        rw [this] at h1'; cases h1'
      refine ⟨hro, Classical.not_not.1 h2, ?_⟩
      have hq : ReadP srtD r l ⟨(readM srtD r l).1, (readM srtD r l).2, none, 0, [], []⟩ ∨ True := .inr trivial
      refine runB_ch _ _ (fun d hd => doG_ok hro ?_) (chH_ch ((chainB_iff _ _ _).1 hro.2.2))
      unfold readM at h1' hd
      rw [if_neg (by rw [chkRo_ok hro]; simp)] at h1' hd
      split at h1'
      · cases h1'
      · rename_i g1
        rw [if_neg g1] at hd
        split at h1'
        · cases h1'
        · rename_i g2
          rw [if_neg g2] at hd
          split at hd
          · cases hd
          · rename_i acc g3
            rcases onceM_mem l [] acc g3 _ (srtD_mem acc _ hd) with h | ⟨y, hy, e⟩
            · cases h
            · have hvy : validB r y = true := by
                cases hv : validB r y with
                | true => rfl
                | false => exact absurd (List.any_eq_true.2 ⟨y, hy, by rw [hv]; rfl⟩) g2
              have e2 : validB r (er y) = validB r y := rfl
              rw [e, e2]; exact hvy
end Go.Proofs.YtkpkebpofpcmaaaGreatDoor
