/- Walks: an auction of two bids; deeds that let, in order. -/
import Derived.Test.YtkpkebpofpcmaaaGreatDoorD18
namespace Go.Proofs.YtkpkebpofpcmaaaGreatDoor
open Go Go.Eng Go.RowKit Go.Proofs
set_option maxHeartbeats 4000000
set_option maxRecDepth 10000
attribute [local irreducible] TL TC TQ

theorem c31 (t : Sp) (l : List Bd) (ao : Option Addr) (c : Nat) (ht : Tn t 0 23040) (h2 : l.length = 2) (hbs : ∀ x ∈ l, In x.who 1 9999 ∧ Tn x.turn t.1 t.2 ∧ In x.baisa 0 1000000000) (hov : ovB l 0 1 = true) (x y : Bd) (hx : l[0]? = some x) (hy : l[1]? = some y) (hpx : 0 < x.baisa ∧ x.baisa ≤ 1000) (hxy : 0 ≤ y.baisa ∧ y.baisa ≤ x.baisa) (w : World) (hb : Sl w 4 encBd ao l) :
    Calls Tryz.prog 31 #[.agg (encSp t).toArray, .slice ao l.length c] w (RetP w.heap.size w (fun q : Option Addr × Nat × Hp => .tuple #[.slice q.1 1 q.2.1, .int .i64 x.baisa, .int .i64 0]) (fun q => q.2.2) (fun q => RowE 3 1 encI q.1 q.2.1 q.2.2 [0])) := by
  refine enter (args := [.agg (encSp t).toArray, .slice ao l.length c]) Tryz.func31 rfl Tryz.ntmps31 rfl (SH.refl _) ?_
  repeat' (first | refine rn ?_ | (refine zb ?_; intro _ _) | (refine za ?_; intro _ _) | (refine zs ?_; intro _ _))
  refine TL_callV rfl rfl rfl (fun w h => c72 t l ao c ht (by omega) hbs w (h.sl hb)) ?_
  repeat' (first | refine rn ?_ | (refine zb ?_; intro _ _) | (refine za ?_; intro _ _) | (refine zs ?_; intro _ _))
  rename_i b2 _ b3 _ b4 _ b5 _ b8 _
  refine TL_call rfl rfl rfl _ _ _ (fun w' h => c73_top l ao c h2 hov x y hx hy hpx hxy b5 b4 b3 b8 w' ((h.sub (H' := [(b8, .cells [onV b5 b4 b3 b8] 154), (b5, .cells [.int .i64 0] 3), (b4, .cells [.slice none 0 0] 55), (b3, .cells [.slice ao l.length c] 93)]) (List.Sublist.cons_cons _ (List.Sublist.cons_cons _ (List.Sublist.cons_cons _ (List.Sublist.cons_cons _ (List.nil_sublist _)))))).perm (List.perm_append_singleton (b8, Blk.cells [onV b5 b4 b3 b8] 154) [(b5, Blk.cells [.int .i64 0] 3), (b4, Blk.cells [.slice none 0 0] 55), (b3, Blk.cells [.slice ao l.length c] 93)])) hb) (fun q hq => ?_)
  unfold aucH
  repeat' (first | refine rn ?_ | (refine zb ?_; intro _ _) | (refine za ?_; intro _ _) | (refine zs ?_; intro _ _))
  refine TC_any Tryz.mixed ?_
  refine TA_stepL [0, 1] (by kernel_rfl) rfl ⟨?_, ?_, trivial⟩
  · change TL _ _ _ _ _ _ _ _ _ _ _
    refine TL_load1 rfl rfl mm rfl ?_; apply TL_nil; apply TQ_any
    refine TA_stepL [1, 2] (by kernel_rfl) rfl ⟨?_, ?_, trivial⟩
    · change TL _ _ _ _ _ _ _ _ _ _ _
      refine TL_load1 rfl rfl mm rfl ?_; apply TL_nil; apply TQ_any
      refine TA_stepL [2] (by kernel_rfl) rfl ⟨?_, trivial⟩
      change TL _ _ _ _ _ _ _ _ _ _ _
      refine TL_store rfl rfl rfl rfl rfl up rfl ?_; apply TL_nil; apply TQ_any
      refine TA_stepL [3] (by kernel_rfl) rfl ⟨?_, trivial⟩
      change TL _ _ _ _ _ _ _ _ _ _ _
      refine TL_store rfl rfl rfl rfl rfl up rfl ?_; apply TL_nil; apply TQ_any
      refine TA_stepL [4] (by kernel_rfl) rfl ⟨?_, trivial⟩
      change TL _ _ _ _ _ _ _ _ _ _ _
      refine r1 ?_; apply TL_nil; apply TQ_any
      refine TA_done (by kernel_rfl) ?_
      (repeat refine r1 ?_); exact TQ_ret3 Tryz.results31 (RV.cell1 rfl mm (by rfl)) (RV.cell1 rfl mm (by rfl)) (RV.tmp rfl) (fun w' hs => ⟨q, hq, rfl, hs.sub (List.Sublist.cons _ (List.Sublist.cons _ (List.Sublist.cons _ (List.Sublist.cons _ (List.Sublist.refl _)))))⟩)
    · change TL _ _ _ _ _ _ _ _ _ _ _
      refine TL_store rfl rfl rfl rfl rfl up rfl ?_; apply TL_nil; apply TQ_any
      refine TA_stepL [1] (by kernel_rfl) rfl ⟨?_, trivial⟩
      change TL _ _ _ _ _ _ _ _ _ _ _
      refine TL_load1 rfl rfl mm rfl ?_; apply TL_nil; apply TQ_any
      refine TA_stepL [3] (by kernel_rfl) rfl ⟨?_, trivial⟩
      change TL _ _ _ _ _ _ _ _ _ _ _
      refine TL_store rfl rfl rfl rfl rfl up rfl ?_; apply TL_nil; apply TQ_any
      refine TA_stepL [4] (by kernel_rfl) rfl ⟨?_, trivial⟩
      change TL _ _ _ _ _ _ _ _ _ _ _
      refine r1 ?_; apply TL_nil; apply TQ_any
      refine TA_done (by kernel_rfl) ?_
      (repeat refine r1 ?_); exact TQ_ret3 Tryz.results31 (RV.cell1 rfl mm (by rfl)) (RV.cell1 rfl mm (by rfl)) (RV.tmp rfl) (fun w' hs => ⟨q, hq, rfl, hs.sub (List.Sublist.cons _ (List.Sublist.cons _ (List.Sublist.cons _ (List.Sublist.cons _ (List.Sublist.refl _)))))⟩)
  · change TL _ _ _ _ _ _ _ _ _ _ _
    refine TL_load1 rfl rfl mm rfl ?_; apply TL_nil; apply TQ_any
    refine TA_stepL [0] (by kernel_rfl) rfl ⟨?_, trivial⟩
    change TL _ _ _ _ _ _ _ _ _ _ _
    refine TL_load1 rfl rfl mm rfl ?_; apply TL_nil; apply TQ_any
    refine TA_stepL [2] (by kernel_rfl) rfl ⟨?_, trivial⟩
    change TL _ _ _ _ _ _ _ _ _ _ _
    refine TL_store rfl rfl rfl rfl rfl up rfl ?_; apply TL_nil; apply TQ_any
    refine TA_stepL [3] (by kernel_rfl) rfl ⟨?_, trivial⟩
    change TL _ _ _ _ _ _ _ _ _ _ _
    refine TL_store rfl rfl rfl rfl rfl up rfl ?_; apply TL_nil; apply TQ_any
    refine TA_stepL [4] (by kernel_rfl) rfl ⟨?_, trivial⟩
    change TL _ _ _ _ _ _ _ _ _ _ _
    refine r1 ?_; apply TL_nil; apply TQ_any
    refine TA_done (by kernel_rfl) ?_
    (repeat refine r1 ?_); exact TQ_ret3 Tryz.results31 (RV.cell1 rfl mm (by rfl)) (RV.cell1 rfl mm (by rfl)) (RV.tmp rfl) (fun w' hs => ⟨q, hq, rfl, hs.sub (List.Sublist.cons _ (List.Sublist.cons _ (List.Sublist.cons _ (List.Sublist.cons _ (List.Sublist.refl _)))))⟩)
theorem c33 (l1 l2 : List Int) (a1 a2 : Option Addr) (c1 c2 : Nat) (hn : Small l1.length) (hn2 : Small l2.length) (w : World) (h1 : Sl w 1 encI a1 l1) (h2 : Sl w 1 encI a2 l2) : Calls Tryz.prog 33 #[.slice a1 l1.length c1, .slice a2 l2.length c2] w (RetV w (.bool (decide (l1 = l2)))) := by
  unfold Small at hn hn2
  refine enter (args := [.slice a1 l1.length c1, .slice a2 l2.length c2]) Tryz.func33 rfl Tryz.ntmps33 rfl (SH.refl _) ?_
  repeat' (first | refine rn ?_ | (refine zb ?_; intro _ _) | (refine za ?_; intro _ _) | (refine zs ?_; intro _ _))
  refine TC_cond_dec rfl (fun g1 => ?_) (fun g1 => ?_)
  · repeat' (first | refine rn ?_ | (refine zb ?_; intro _ _) | (refine za ?_; intro _ _) | (refine zs ?_; intro _ _))
    exact TQ_ret1 Tryz.results33 (RV.tmp rfl) (fun w' hs => RetV.no (fun h => g1 (by rw [h])) hs.below)
  have hlen : l1.length = l2.length := by omega
  repeat' (first | refine rn ?_ | (refine zb ?_; intro _ _) | (refine za ?_; intro _ _) | (refine zs ?_; intro _ _))
  refine TC_loop (σ := Nat) (fun k => k ≤ l1.length ∧ ∀ i, i < k → l1[i]? = l2[i]?) (fun k => [(0, .slice a1 l1.length c1), (1, .slice a2 l2.length c2), (5, .int .i64 k)]) (fun k => []) (fun k => l1.length - k) 0 ⟨Nat.zero_le _, fun i h => by omega⟩ sb (fun w h => h) (fun k hk => ?_)
  repeat' (first | refine rn ?_ | (refine zb ?_; intro _ _) | (refine za ?_; intro _ _) | (refine zs ?_; intro _ _))
  refine TC_cond_dec rfl (fun g2 => ?_) (fun g2 => ?_)
  · have hlt : k < l1.length := by omega
    have hlt2 : k < l2.length := by omega
    obtain ⟨x, hx⟩ : ∃ x, l1[k]? = some x := ⟨_, List.getElem?_eq_getElem hlt⟩
    obtain ⟨y, hy⟩ : ∃ y, l2[k]? = some y := ⟨_, List.getElem?_eq_getElem hlt2⟩
    repeat' (first | refine rn ?_ | (refine zb ?_; intro _ _) | (refine za ?_; intro _ _) | (refine zs ?_; intro _ _))
    apply TC_draw 9; kernel_rfl; exact Tryz.mixed
    · iterate 2 (refine' pv ?_; rotate_left)
      (refine' PG.val rfl rfl (by intro _X; refine TL_index k rfl rfl rfl (fun w h => h.sl h1) rfl hlt (Nat.le_refl _) ?_; exact qe) ?_; rotate_left)
      (refine' PG.val rfl rfl (by intro _X; refine TL_load_el1 (u := x) rfl rfl (fun w h => h.sl h1) hx rfl ?_; exact qe) ?_; rotate_left)
      iterate 2 (refine' pv ?_; rotate_left)
      (refine' PG.val rfl rfl (by intro _X; refine TL_index k rfl rfl rfl (fun w h => h.sl h2) rfl hlt2 (Nat.le_refl _) ?_; exact qe) ?_; rotate_left)
      (refine' PG.val rfl rfl (by intro _X; refine TL_load_el1 (u := y) rfl rfl (fun w h => h.sl h2) hy rfl ?_; exact qe) ?_; rotate_left)
      (refine' pv ?_; rotate_left)
      exact PG.nil
    change TL _ _ _ _ _ _ _ _ _ _ _
    repeat' (first | refine rn ?_ | (refine zb ?_; intro _ _) | (refine za ?_; intro _ _) | (refine zs ?_; intro _ _))
    refine TC_cond_dec rfl (fun g3 => ?_) (fun g3 => ?_)
    · repeat' (first | refine rn ?_ | (refine zb ?_; intro _ _) | (refine za ?_; intro _ _) | (refine zs ?_; intro _ _))
      refine TQ_ret1 Tryz.results33 (RV.tmp rfl) (fun w' hs => RetV.no (fun h => g3 ?_) hs.below)
      rw [h, hy] at hx
      cases hx; rfl
    · repeat' (first | refine rn ?_ | (refine zb ?_; intro _ _) | (refine za ?_; intro _ _) | (refine zs ?_; intro _ _))
      refine TQ_round (k + 1) ⟨by omega, fun i hi => ?_⟩ (by omega) sb (fun w h => h)
      rcases Nat.lt_or_ge i k with h | h
      · exact hk.2 i h
      · have : i = k := by omega
        subst this
        rw [hx, hy, Classical.not_not.1 g3]
  · have hkl : k = l1.length := by omega
    subst hkl
    repeat' (first | refine rn ?_ | (refine zb ?_; intro _ _) | (refine za ?_; intro _ _) | (refine zs ?_; intro _ _))
    refine TQ_ret1 Tryz.results33 (RV.tmp rfl) (fun w' hs => RetV.yes (List.ext_getElem? fun i => ?_) hs.below)
    rcases Nat.lt_or_ge i l1.length with h | h
    · exact hk.2 i h
    · rw [List.getElem?_eq_none h, List.getElem?_eq_none (by omega)]
/-- Deeds that only let. -/
def doR : DoF := fun d pcs dead => ((rentM d pcs).1, (rentM d pcs).2, dead)
theorem rentM_ch {e : Int} {d : Dd} {pcs : List Pc} (h : chP e 0 pcs) (ht : Tn d.turn 0 e) : chP e 0 (rentM d pcs).2 := by
  obtain ⟨A, M, C, h3⟩ := split3 h ht
  unfold rentM
  split
  · split
    · exact h3.ch
    · exact chP_setT (f := setLet d) (fun _ => rfl) h3.ch
  · exact h3.ch
theorem doR_ok {r : Ro} (hr : OkRo r) {d : Dd} (hk : d.kind = 4) (ht : Tn d.turn 0 (endR r)) : DoOK r doR d :=
  ⟨true, true, true, false, 159, by rw [hk]; rfl, inferInstance, fun pcs dead hch => ⟨rentM_ch hch ht, fun B w0 G b bm x w _ hok hs => c159 r b bm x pcs dead d (endR r) hok hch (by have := (endR_eq hr).2.1; omega) ht w hs⟩⟩
theorem onceM_inc : ∀ (l acc : List Dd), (∀ a ∈ acc, ∀ x ∈ l, a.id < x.id) → l.Pairwise (fun x y => x.id < y.id) → onceM acc l = some (acc ++ l.map er)
  | [], acc, _, _ => by simp [onceM]
  | x :: l, acc, h1, h2 => by
    have hs : seek acc x.id = none := by
      unfold seek
      rw [List.find?_eq_none]
      intro a ha
      have := h1 a ha x List.mem_cons_self
      simp; omega
    rw [onceM, hs]
    obtain ⟨h3, h4⟩ := List.pairwise_cons.1 h2
    rw [onceM_inc l (acc ++ [er x]) (fun a ha y hy => ?_) h4]
    · simp
    · rcases List.mem_append.1 ha with ha | ha
      · exact h1 a ha y (List.mem_cons_of_mem _ hy)
      · rw [List.mem_singleton.1 ha]; exact h3 y hy
theorem validB_turn {r : Ro} {x : Dd} (hk : x.kind = 4) (h : validB r x = true) : Tn x.turn 0 (endR r) := by
  unfold validB at h
  rw [show kfl x.kind = some (true, true, true, false, 159) from by rw [hk]; rfl] at h
  simp only [Bool.and_eq_true, flagB, tuV, if_true, decide_eq_true_eq] at h
  exact h.2.2.1
theorem cmpR_self (a : Int) : cmpR a a = 0 := by unfold cmpR; simp
/-- At, where all deeds let, with rising numbers, on one day. -/
theorem c13r (r : Ro) (l : List Dd) (ao : Option Addr) (c : Nat) (D day m : Int) (hl : l.length ≤ 19) (hp : l.Pairwise (fun x y => x.id < y.id)) (hD : ∀ x ∈ l, x.day = D) (hk : ∀ x ∈ l, x.kind = 4) (hv : OkRo r → ∀ x ∈ l, validB r x = true) (w : World) (hr : Sl w 3 encHo r.ao r.holds) (hrn : Small r.holds.length) (hd : DdsAt w ao l) :
    Calls Tryz.prog 13 #[.agg (encRo r).toArray, .slice ao l.length c, .int .i64 day, .int .i64 m] w (RetV w (.tuple #[.int .i64 (atM (untilM id doR r l day) day m).1, .int .i64 (atM (untilM id doR r l day) day m).2.1, .int .i64 (atM (untilM id doR r l day) day m).2.2])) := by
  have honce : onceM [] l = some (l.map er) := by
    have := onceM_inc l [] (fun a ha => by cases ha) hp
    simpa using this
  refine c13 (untilM id doR r l day) r l ao c day m w (fun w' hb => c40 id id doR (fun _ _ _ => rfl) r l ao c day w' (hr.mono hb) hrn ⟨hd.s.mono hb, fun x hx => (hd.h x hx).mono hb, hd.n, hd.hn⟩ (fun a x hx => hx) (fun a => rfl) (fun acc hacc => ⟨rfl, ?_⟩) (fun q hq h0 hro d hdq => ?_))
  · have hae := hacc _ honce
    have hal : acc.length = l.length := by have := congrArg List.length hae; simpa using this
    have hget : ∀ (j : Nat) a, acc[j]? = some a → ∃ b, l[j]? = some b ∧ a.id = b.id ∧ a.day = b.day := fun j a ha => by
      have h1 : (acc.map er)[j]? = some (er a) := by rw [List.getElem?_map, ha]; rfl
      rw [hae, List.getElem?_map] at h1
      cases hb : l[j]? with
      | none => rw [hb] at h1; cases h1
      | some b =>
        rw [hb] at h1
        have h2 : er b = er a := by simpa using h1
        exact ⟨b, rfl, (congrArg Dd.id h2).symm, (congrArg Dd.day h2).symm⟩
    have hord : InOrd acc := fun j a b ha hb => by
      obtain ⟨a', ha', e1, e2⟩ := hget j a ha
      obtain ⟨b', hb', e3, e4⟩ := hget (j + 1) b hb
      have hjl := (List.getElem?_eq_some_iff.1 hb').1
      have hlt : a'.id < b'.id := by
        have := List.pairwise_iff_getElem.1 hp j (j + 1) (by omega) hjl (by omega)
        rw [(List.getElem?_eq_some_iff.1 ha').2, (List.getElem?_eq_some_iff.1 hb').2] at this
        exact this
      have hd1 := hD a' (List.mem_of_getElem? ha')
      have hd2 := hD b' (List.mem_of_getElem? hb')
      unfold cmpD
      rw [e1, e2, e3, e4, hd1, hd2, if_pos (cmpR_self D)]
      unfold cmpR
      rw [if_neg (by omega), if_pos hlt]
      decide
    intro B w0 so sc ob bs G w'' hrow hs hm
    refine (c125s acc so sc bs (by omega) hord w'' (hrow.sl hs (fun p hp => List.mem_append_left _ hp)) (Sl.of_blk (enc := encV) (k := 1) (l := byV) hs (List.mem_append_right _ hm) (fun _ _ => rfl) ⟨[], rfl⟩)).mono ?_
    rintro e w3 ⟨rfl, hb3⟩
    exact ⟨ob, hrow, rfl, hs.ext hb3⟩
  · have hql := hq.l
    have h1 : (readM id r l).1 = 0 := by rw [← hq.e]; exact h0
    have h2 : (readM id r l).2 = l.map er := by
      unfold readM at h1 ⊢
      split at h1
      · rename_i hc; exact absurd h1 hc
      · rename_i hc
        rw [if_neg hc]
        split at h1
        · cases h1
        · rename_i hc2
          rw [if_neg hc2]
          split at h1
          · cases h1
          · rename_i hc3
            rw [if_neg hc3, honce]; rfl
    rw [h2] at hql
    have hde : er d ∈ l.map er := by rw [← hql]; exact List.mem_map.2 ⟨d, hdq, rfl⟩
    obtain ⟨x, hx, hxe⟩ := List.mem_map.1 hde
    have ek : d.kind = 4 := by
      have := congrArg Dd.kind hxe
      have h3 := hk x hx
      simpa [er, h3] using this.symm
    have et : d.turn = x.turn := (congrArg Dd.turn hxe).symm
    refine doR_ok hro ek ?_
    rw [et]
    exact validB_turn (hk x hx) (hv hro x hx)
end Go.Proofs.YtkpkebpofpcmaaaGreatDoor
