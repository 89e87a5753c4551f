/- Walks: a death. -/
import Derived.Test.YtkpkebpofpcmaaaGreatDoorEngR
import Derived.Test.YtkpkebpofpcmaaaGreatDoorD17
import Derived.Test.YtkpkebpofpcmaaaGreatDoorS4
namespace Go.Proofs.YtkpkebpofpcmaaaGreatDoor
open Go Go.Eng Go.RowKit Go.Proofs
set_option maxHeartbeats 4000000
set_option maxRecDepth 10000
attribute [local irreducible] TL TC TQ

theorem deadF_upd (d : Dd) (dead : Int → Bool) : fupd (deadF dead) d.fr (.bool true) = deadF (deadU d dead) := by
  funext k
  unfold fupd deadF deadU
  split <;> simp_all
theorem pm_mid {a b : Nat × Blk} {X ob R : Hp} : (a :: b :: (ob ++ (X ++ R))).Perm (X ++ (a :: b :: (ob ++ R))) := by
  refine ((List.Perm.cons a (List.Perm.cons b (List.perm_append_comm_assoc ob X R)))).trans ?_
  exact (List.Perm.cons a List.perm_middle.symm).trans List.perm_middle.symm
def unT (fr : Int) (l : List Pc) (k : Nat) : List Pc := (l.take k).map (unlet fr) ++ l.drop k
theorem unT_len (fr : Int) (l : List Pc) (k : Nat) : (unT fr l k).length = l.length := by simp [unT]; omega
theorem unT_get (fr : Int) {l : List Pc} {k : Nat} {p : Pc} (h : l[k]? = some p) : (unT fr l k)[k]? = some p := by
  have hl := (List.getElem?_eq_some_iff.1 h).1
  unfold unT
  rw [List.getElem?_append_right (by simp; omega)]
  simp [Nat.min_eq_left (Nat.le_of_lt hl), h]
theorem unT_succ (fr : Int) {l : List Pc} {k : Nat} {p : Pc} (h : l[k]? = some p) : (unT fr l k).set k (unlet fr p) = unT fr l (k + 1) := by
  have hl := (List.getElem?_eq_some_iff.1 h).1
  unfold unT
  have e : l.drop k = p :: l.drop (k + 1) := by
    rw [← (List.getElem?_eq_some_iff.1 h).2]; exact List.drop_eq_getElem_cons hl
  rw [take_snoc h, List.map_append, e, List.set_append_right _ _ (by simp; omega)]
  simp [Nat.min_eq_left (Nat.le_of_lt hl)]
theorem unT_all (fr : Int) (l : List Pc) : unT fr l l.length = l.map (unlet fr) := by simp [unT]
theorem ownS_snoc (fr : Int) : ∀ (l : List Pc) (p : Pc), ownS fr (l ++ [p]) = ownS fr l + (if p.owner = fr then lenP p else 0)
  | [], p => by simp [ownS]
  | q :: l, p => by rw [List.cons_append, ownS, ownS, ownS_snoc fr l p]; omega
theorem chP_take {e : Int} : ∀ {l : List Pc} {s : Int} {k : Nat} {p : Pc}, chP e s l → l[k]? = some p → chP p.turn.1 s (l.take k)
  | [], s, k, p, _, h => by simp at h
  | q :: l, s, 0, p, h, hk => by simp at hk; subst hk; exact h.1.symm
  | q :: l, s, k + 1, p, h, hk => ⟨h.1, h.2.1, chP_take h.2.2 (by simpa using hk)⟩
theorem sl_set {α : Type} {l : List α} {k : Nat} {p u : α} (h : l[k]? = some p) : (l.set k u)[k]? = some u := by
  have := (List.getElem?_eq_some_iff.1 h).1
  rw [List.getElem?_set_self this]
theorem set_same {α : Type} {l : List α} {k : Nat} {p : α} (h : l[k]? = some p) : l.set k p = l := by
  apply List.ext_getElem?
  intro i
  rw [List.getElem?_set]
  split
  · rename_i e; subst e
    have := (List.getElem?_eq_some_iff.1 h).1
    rw [if_pos this, h]
  · rfl
theorem drop_cons {α : Type} {l : List α} {k : Nat} {p : α} (h : l[k]? = some p) : l.drop k = p :: l.drop (k + 1) := by
  have hl := (List.getElem?_eq_some_iff.1 h).1
  rw [← (List.getElem?_eq_some_iff.1 h).2]; exact List.drop_eq_getElem_cons hl
theorem c158 {B : Nat} {w0 : World} {G : Hp} (r : Ro) (b bm : Nat) (x : Lc) (pcs : List Pc) (dead : Int → Bool) (d : Dd) (e : Int) (hok : BkOk x pcs dead) (hch : chP e 0 pcs) (he : e ≤ 80000) (hne : d.heirs ≠ []) (hh8 : d.heirs.length ≤ 8) (hhp : ∀ h ∈ d.heirs, h.1 ≠ d.fr ∧ 1 ≤ h.2 ∧ h.2 ≤ 1000) (hfr : d.fr ≠ 0) (hHI : HeirsIn [d] G) (w : World) (hs : SH B w0 w (bkH r b bm x pcs.length G)) :
    Calls Tryz.prog 158 #[.pointer (some ⟨b, 0, none⟩), .agg (encDd d).toArray] w (EndP B w0 (fun _ : Lc => whyE (deathM d pcs dead).1) (fun y => bkH r b bm y (deathM d pcs dead).2.1.length G) (fun y => BkOk y (deathM d pcs dead).2.1 (deathM d pcs dead).2.2)) := by
  obtain ⟨hob, hhr, hhm, _⟩ := hHI d List.mem_cons_self
  have hpl := chP_len hch
  obtain ⟨HM, hHM⟩ : ∃ HM, HM = heirsM d (deadU d dead) := ⟨_, rfl⟩
  have okH : OkH HM := by
    rw [hHM]; unfold heirsM
    split
    · exact ⟨by simp, by simp, by simp⟩
    · rename_i h1
      exact ⟨h1, Nat.le_trans (List.length_filter_le _ _) hh8, fun h hm => (hhp h (List.mem_filter.1 hm).1).2⟩
  have hHw : ∀ h ∈ HM, h.1 ≠ d.fr := by
    rw [hHM]; unfold heirsM
    split
    · intro h hm; rw [List.mem_singleton.1 hm]; exact fun e => hfr e.symm
    · intro h hm; exact (hhp h (List.mem_filter.1 hm).1).1
  have hnS := ownS_nn (fr := d.fr) hch
  unfold deathM
  rw [← hHM]
  refine enter (args := [.pointer (some ⟨b, 0, none⟩), .agg (encDd d).toArray]) Tryz.func158 rfl Tryz.ntmps158 rfl hs ?_
  refine r1 ?_
  refine r1 ?_
  repeat' (first | refine rn ?_ | (refine zb ?_; intro _ _) | (refine za ?_; intro _ _) | (refine zs ?_; intro _ _))
  rename_i b2 _ b3 _
  refine TC_hp (H' := bkH r b bm x pcs.length ((b3, .cells (encDd d) 50) :: (b2, .cells [.pointer (some ⟨b, 0, none⟩)] 110) :: G)) pm_in2 ?_
  obtain ⟨G2, hG2⟩ : ∃ G2 : Hp, G2 = (b3, .cells (encDd d) 50) :: (b2, .cells [.pointer (some ⟨b, 0, none⟩)] 110) :: G := ⟨_, rfl⟩
  have m3 : (b3, Blk.cells (encDd d) 50) ∈ G2 := by rw [hG2]; exact List.mem_cons_self
  have m2 : (b2, Blk.cells [.pointer (some ⟨b, 0, none⟩)] 110) ∈ G2 := by rw [hG2]; exact List.mem_cons_of_mem _ List.mem_cons_self
  have mG : ∀ p ∈ G, p ∈ G2 := fun p hp => by rw [hG2]; exact List.mem_cons_of_mem _ (List.mem_cons_of_mem _ hp)
  rw [← hG2]
  have s2 : ∀ (H : Hp) w', (∀ p ∈ G2, p ∈ H) → SH B w0 w' H → Sl w' 1 encV (some ⟨b2, 0, none⟩) [.pointer (some ⟨b, 0, none⟩)] := fun H w' hm h => Sl.of_blk h (hm _ m2) (fun _ _ => rfl) ⟨[], rfl⟩
  have s3 : ∀ (H : Hp) w', (∀ p ∈ G2, p ∈ H) → SH B w0 w' H → Sl w' 9 encDd (some ⟨b3, 0, none⟩) [d] := fun H w' hm h => Sl.of_blk h (hm _ m3) (fun _ _ => rfl) ⟨[], rfl⟩
  have hdne : ([d] : List Dd) ≠ [] := by simp
  apply TC_draw 6; kernel_rfl; exact Tryz.mixed
  · (refine' PG.val rfl rfl (by intro _X; refine TL_load_el1 (i := 0) (o := 0) rfl rfl (fun w h => s2 _ w (fun p hp => by repeat (first | exact hp | exact List.mem_append_left _ hp | apply List.mem_cons_of_mem | apply List.mem_append_right)) h) rfl rfl ?_; exact qe) ?_; rotate_left)
    (refine' PG.val rfl rfl (by intro _X; refine TL_nilCheck rfl rfl ?_; exact qe) ?_; rotate_left)
    iterate 2 (refine' pv ?_; rotate_left)
    (refine' PG.val rfl rfl (by intro _X; refine TL_fieldAddr_el (i := 0) (o := 0) rfl rfl (fun w h => s3 _ w (fun p hp => by repeat (first | exact hp | exact List.mem_append_left _ hp | apply List.mem_cons_of_mem | apply List.mem_append_right)) h) hdne ?_; exact qe) ?_; rotate_left)
    (refine' PG.val rfl rfl (by intro _X; refine TL_load_el1 (i := 0) (o := 3) rfl rfl (fun w h => s3 _ w (fun p hp => by repeat (first | exact hp | exact List.mem_append_left _ hp | apply List.mem_cons_of_mem | apply List.mem_append_right)) h) rfl rfl ?_; exact qe) ?_; rotate_left)
    exact PG.nil
  change TL _ _ _ _ _ _ _ _ _ _ _
  refine TL_mapSet (H' := fun es' clk' => bkH r b bm { x with es := es', clk := clk' } pcs.length G2) (.inl rfl) rfl rfl rfl (fun _ _ => up) hok.map (fun es clk hmr => ?_)
  rw [deadF_upd] at hmr
  obtain ⟨x1, hx1⟩ : ∃ x1 : Lc, x1 = { x with es := es, clk := clk } := ⟨_, rfl⟩
  have hok1 : BkOk x1 pcs (deadU d dead) := by rw [hx1]; exact ⟨hok.row, hmr⟩
  show TL _ _ _ _ _ _ _ _ (bkH r b bm { x with es := es, clk := clk } pcs.length G2) _ _
  rw [← hx1]
  repeat' (first | refine rn ?_ | (refine zb ?_; intro _ _) | (refine za ?_; intro _ _) | (refine zs ?_; intro _ _))
  refine TL_load_el1 (i := 0) (o := 8) rfl rfl (fun w h => s3 _ w (fun p hp => by repeat (first | exact hp | exact List.mem_append_left _ hp | apply List.mem_cons_of_mem | apply List.mem_append_right)) h) rfl rfl ?_
  refine TL_callN rfl rfl rfl (fun w h => c124 d.heirs d.ao d.cap (by omega) w (hhr.sl h (fun p hp => by first | exact List.mem_cons_of_mem _ (List.mem_cons_of_mem _ (List.mem_append_right _ (mG _ (hhm p hp))))))) ?_
  rintro ⟨so, sc, sob⟩ hcl
  have hcl := RowE.row hcl hne
  dsimp only at hcl ⊢
  repeat' (first | refine rn ?_ | (refine zb ?_; intro _ _) | (refine za ?_; intro _ _) | (refine zs ?_; intro _ _))
  refine TL_call rfl rfl rfl _ _ _ (fun w h => c188 (G := bkH r b bm x1 pcs.length G2) (fun h => deadU d dead h.1) 189 [.pointer (some ⟨b2, 0, none⟩)] d.heirs so sc sob (by omega) hne hcl (fun y hy H w' hG h' => c189 y b2 b bm (bkC r bm x1 pcs.length) rfl rfl (deadU d dead) x1.es x1.clk hok1.map w' (s2 _ w' (fun p hp => hG _ (mem_bk' hp)) h') (Sl.of_blk (k := 4) (enc := fun c : List Value => c) (l := [bkC r bm x1 pcs.length]) h' (hG _ (List.Mem.head _)) (fun y hy => by rw [List.mem_singleton.1 hy]; rfl) ⟨[], by simp⟩) (h'.holds bm _ (hG _ (List.Mem.tail _ (List.Mem.head _)))).2) w h) ?_
  rintro ⟨bb, cs⟩ ⟨hso, more, hcs⟩
  dsimp only at hso hcs ⊢
  subst hso
  repeat' (first | refine rn ?_ | (refine zb ?_; intro _ _) | (refine za ?_; intro _ _) | (refine zs ?_; intro _ _))
  refine TC_join (σ := Nat × List Value × Nat) (fun q => ∃ more, q.2.1 = HM.flatMap encSp ++ more) (fun q => [(2, .pointer (some ⟨b2, 0, none⟩)), (3, .pointer (some ⟨b3, 0, none⟩)), (4, .slice (some ⟨q.1, 0, none⟩) HM.length q.2.2)]) (fun q => (q.1, .cells q.2.1 214) :: bkH r b bm x1 pcs.length G2) ?_ (fun q hq => ?_)
  · obtain ⟨F, hF⟩ : ∃ F, F = d.heirs.filter (fun h => !deadU d dead h.1) := ⟨_, rfl⟩
    rw [← hF] at hcs ⊢
    unfold heirsM at hHM
    rw [← hF] at hHM
    refine TC_cond_dec rfl (fun g1 => ?_) (fun g1 => ?_)
    · have hF0 : F = [] := List.eq_nil_of_length_eq_zero (by omega)
      rw [if_pos hF0] at hHM
      repeat' (first | refine rn ?_ | (refine zb ?_; intro _ _) | (refine za ?_; intro _ _) | (refine zs ?_; intro _ _))
      rename_i b4 _
      exact TQ_mid (b4, [.int .i64 0, .int .i64 1], 1) ⟨[], by rw [hHM]; rfl⟩ (by rw [hHM]; exact sb) (fun w h => h.sub (List.Sublist.cons_cons _ (List.sublist_cons_self _ _)))
    · have hF0 : F ≠ [] := fun e => g1 (by rw [e]; rfl)
      rw [if_neg hF0] at hHM
      subst hHM
      repeat' (first | refine rn ?_ | (refine zb ?_; intro _ _) | (refine za ?_; intro _ _) | (refine zs ?_; intro _ _))
      exact TQ_mid (bb, cs, sc) ⟨more, hcs⟩ sb (fun w h => h)
  obtain ⟨bh, hcs, hcap⟩ := q
  obtain ⟨hmore, hcse⟩ := hq
  dsimp only at hcse ⊢
  refine TC_hp (H' := bkH r b bm x1 pcs.length ((bh, .cells hcs 214) :: G2)) pm_in1 ?_
  obtain ⟨G3, hG3⟩ : ∃ G3 : Hp, G3 = (bh, .cells hcs 214) :: G2 := ⟨_, rfl⟩
  have g3 : ∀ p ∈ G2, p ∈ G3 := fun p hp => by rw [hG3]; exact List.mem_cons_of_mem _ hp
  rw [← hG3]
  have t2 : ∀ (H : Hp) w', (∀ p ∈ G3, p ∈ H) → SH B w0 w' H → Sl w' 1 encV (some ⟨b2, 0, none⟩) [.pointer (some ⟨b, 0, none⟩)] := fun H w' hm h => s2 H w' (fun p hp => hm p (g3 p hp)) h
  have t3 : ∀ (H : Hp) w', (∀ p ∈ G3, p ∈ H) → SH B w0 w' H → Sl w' 9 encDd (some ⟨b3, 0, none⟩) [d] := fun H w' hm h => s3 H w' (fun p hp => hm p (g3 p hp)) h
  have th : ∀ (H : Hp) w', (∀ p ∈ G3, p ∈ H) → SH B w0 w' H → Sl w' 2 encSp (some ⟨bh, 0, none⟩) HM := fun H w' hm h => Sl.of_blk h (hm _ (by rw [hG3]; exact List.mem_cons_self)) (fun _ _ => rfl) ⟨hmore, hcse⟩
  repeat' (first | refine rn ?_ | (refine zb ?_; intro _ _) | (refine za ?_; intro _ _) | (refine zs ?_; intro _ _))
  refine TL_load_el1 (i := 0) (o := 0) rfl rfl (fun w h => t2 _ w (fun p hp => by repeat (first | exact hp | exact List.mem_append_left _ hp | apply List.mem_cons_of_mem | apply List.mem_append_right)) h) rfl rfl ?_
  repeat' (first | refine rn ?_ | (refine zb ?_; intro _ _) | (refine za ?_; intro _ _) | (refine zs ?_; intro _ _) | (refine nk ?_))
  refine TC_loop (σ := Nat × Hp) (fun q => q.1 ≤ pcs.length ∧ Row 116 5 encPc x1.ao x1.cap q.2 (unT d.fr pcs q.1)) (fun q => [(2, .pointer (some ⟨b2, 0, none⟩)), (3, .pointer (some ⟨b3, 0, none⟩)), (4, .slice (some ⟨bh, 0, none⟩) HM.length hcap), (5, .int .i64 (ownS d.fr (pcs.take q.1))), (31, .int .i64 pcs.length), (32, .int .i64 q.1)]) (fun q => bkH r b bm { x1 with ob := q.2 } pcs.length G3) (fun q => pcs.length - q.1) (0, x1.ob) ⟨Nat.zero_le _, by show Row _ _ _ _ _ _ ([] ++ pcs); exact hok1.row⟩ sb (fun w h => h) (fun q hq => ?_)
  obtain ⟨k, ob⟩ := q
  obtain ⟨hk, hr⟩ := hq
  dsimp only at hk hr ⊢
  repeat' (first | refine rn ?_ | (refine zb ?_; intro _ _) | (refine za ?_; intro _ _) | (refine zs ?_; intro _ _))
  refine TC_cond_dec rfl (fun g1 => ?_) (fun g1 => ?_)
  · have hlt : k < pcs.length := by omega
    obtain ⟨p, hp⟩ : ∃ p, pcs[k]? = some p := ⟨_, List.getElem?_eq_getElem hlt⟩
    have hpu := unT_get d.fr hp
    have hul := unT_len d.fr pcs k
    have hne2 : unT d.fr pcs k ≠ [] := fun e => by rw [e] at hul; simp at hul; omega
    have hpm := chP_mem hch p (List.mem_of_getElem? hp)
    have hos := ownS_snoc d.fr (pcs.take k) p
    rw [← take_snoc hp] at hos
    have hck : chP p.turn.1 0 (pcs.take k) := chP_take hch hp
    have hob0 := ownS_nn (fr := d.fr) hck
    repeat' (first | refine rn ?_ | (refine zb ?_; intro _ _) | (refine za ?_; intro _ _) | (refine zs ?_; intro _ _))
    refine TL_load_el1 (i := 0) (o := 0) rfl rfl (fun w h => t2 _ w (fun p hp => by repeat (first | exact hp | exact List.mem_append_left _ hp | apply List.mem_cons_of_mem | apply List.mem_append_right)) h) rfl rfl ?_
    repeat' (first | refine rn ?_ | (refine zb ?_; intro _ _) | (refine za ?_; intro _ _) | (refine zs ?_; intro _ _) | (refine nk ?_))
    refine TL_index k rfl rfl rfl (fun w h => hr.sl h (fun p hp => by repeat (first | exact hp | exact List.mem_append_left _ hp | apply List.mem_cons_of_mem | apply List.mem_append_right))) rfl (by omega) (by omega) ?_
    repeat' (first | refine rn ?_ | (refine zb ?_; intro _ _) | (refine za ?_; intro _ _) | (refine zs ?_; intro _ _))
    apply TC_draw 7; kernel_rfl; exact Tryz.mixed
    · (refine' pv ?_; rotate_left)
      (refine' PG.val rfl rfl (by intro _X; refine TL_nilCheck rfl rfl ?_; exact qe) ?_; rotate_left)
      (refine' PG.val rfl rfl (by intro _X; refine TL_fieldAddr_el (i := k) rfl rfl (fun w h => hr.sl h (fun p hp => by repeat (first | exact hp | exact List.mem_append_left _ hp | apply List.mem_cons_of_mem | apply List.mem_append_right))) hne2 ?_; exact qe) ?_; rotate_left)
      (refine' PG.val rfl rfl (by intro _X; refine TL_load_el1 (u := p) rfl rfl (fun w h => hr.sl h (fun p hp => by repeat (first | exact hp | exact List.mem_append_left _ hp | apply List.mem_cons_of_mem | apply List.mem_append_right))) hpu rfl ?_; exact qe) ?_; rotate_left)
      (refine' pv ?_; rotate_left)
      (refine' PG.val rfl rfl (by intro _X; refine TL_load_el1 (i := 0) (o := 3) rfl rfl (fun w h => t3 _ w (fun p hp => by repeat (first | exact hp | exact List.mem_append_left _ hp | apply List.mem_cons_of_mem | apply List.mem_append_right)) h) rfl rfl ?_; exact qe) ?_; rotate_left)
      (refine' pv ?_; rotate_left)
      exact PG.nil
    change TL _ _ _ _ _ _ _ _ _ _ _
    repeat' (first | refine rn ?_ | (refine zb ?_; intro _ _) | (refine za ?_; intro _ _) | (refine zs ?_; intro _ _))
    refine TC_join (σ := Unit) (fun _ => True) (fun _ => [(2, .pointer (some ⟨b2, 0, none⟩)), (3, .pointer (some ⟨b3, 0, none⟩)), (4, .slice (some ⟨bh, 0, none⟩) HM.length hcap), (5, .int .i64 (ownS d.fr (pcs.take (k + 1)))), (7, .pointer (some (elA x1.ao 5 k 0))), (31, .int .i64 pcs.length), (32, .int .i64 k)]) (fun _ => bkH r b bm { x1 with ob := ob } pcs.length G3) ?_ (fun _ _ => ?_)
    · refine TC_cond_dec rfl (fun g2 => ?_) (fun g2 => ?_)
      · rw [if_pos g2] at hos
        unfold lenP at hos
        repeat' (first | refine rn ?_ | (refine zb ?_; intro _ _) | (refine za ?_; intro _ _) | (refine zs ?_; intro _ _))
        apply TC_draw 13; kernel_rfl; exact Tryz.mixed
        · iterate 2 (refine' pv ?_; rotate_left)
          (refine' PG.val rfl rfl (by intro _X; refine TL_nilCheck rfl rfl ?_; exact qe) ?_; rotate_left)
          (refine' PG.val rfl rfl (by intro _X; refine TL_fieldAddr_el (i := k) rfl rfl (fun w h => hr.sl h (fun p hp => by repeat (first | exact hp | exact List.mem_append_left _ hp | apply List.mem_cons_of_mem | apply List.mem_append_right))) hne2 ?_; exact qe) ?_; rotate_left)
          (refine' PG.val rfl rfl (by intro _X; refine TL_fieldAddr_el (i := k) rfl rfl (fun w h => hr.sl h (fun p hp => by repeat (first | exact hp | exact List.mem_append_left _ hp | apply List.mem_cons_of_mem | apply List.mem_append_right))) hne2 ?_; exact qe) ?_; rotate_left)
          (refine' PG.val rfl rfl (by intro _X; refine TL_load_el1 (u := p) rfl rfl (fun w h => hr.sl h (fun p hp => by repeat (first | exact hp | exact List.mem_append_left _ hp | apply List.mem_cons_of_mem | apply List.mem_append_right))) hpu rfl ?_; exact qe) ?_; rotate_left)
          (refine' pv ?_; rotate_left)
          (refine' PG.val rfl rfl (by intro _X; refine TL_nilCheck rfl rfl ?_; exact qe) ?_; rotate_left)
          (refine' PG.val rfl rfl (by intro _X; refine TL_fieldAddr_el (i := k) rfl rfl (fun w h => hr.sl h (fun p hp => by repeat (first | exact hp | exact List.mem_append_left _ hp | apply List.mem_cons_of_mem | apply List.mem_append_right))) hne2 ?_; exact qe) ?_; rotate_left)
          (refine' PG.val rfl rfl (by intro _X; refine TL_fieldAddr_el (i := k) rfl rfl (fun w h => hr.sl h (fun p hp => by repeat (first | exact hp | exact List.mem_append_left _ hp | apply List.mem_cons_of_mem | apply List.mem_append_right))) hne2 ?_; exact qe) ?_; rotate_left)
          (refine' PG.val rfl rfl (by intro _X; refine TL_load_el1 (u := p) rfl rfl (fun w h => hr.sl h (fun p hp => by repeat (first | exact hp | exact List.mem_append_left _ hp | apply List.mem_cons_of_mem | apply List.mem_append_right))) hpu rfl ?_; exact qe) ?_; rotate_left)
          iterate 2 (refine' pv ?_; rotate_left)
          exact PG.nil
        change TL _ _ _ _ _ _ _ _ _ _ _
        repeat' (first | refine rn ?_ | (refine zb ?_; intro _ _) | (refine za ?_; intro _ _) | (refine zs ?_; intro _ _))
        rw [← hos]
        exact TQ_mid () trivial sb (fun w h => h)
      · rw [if_neg g2, Int.add_zero] at hos
        rw [hos]
        repeat' (first | refine rn ?_ | (refine zb ?_; intro _ _) | (refine za ?_; intro _ _) | (refine zs ?_; intro _ _))
        exact TQ_mid () trivial sb (fun w h => h)
    repeat' (first | refine rn ?_ | (refine zb ?_; intro _ _) | (refine za ?_; intro _ _) | (refine zs ?_; intro _ _))
    apply TC_draw 7; kernel_rfl; exact Tryz.mixed
    · (refine' pv ?_; rotate_left)
      (refine' PG.val rfl rfl (by intro _X; refine TL_nilCheck rfl rfl ?_; exact qe) ?_; rotate_left)
      (refine' PG.val rfl rfl (by intro _X; refine TL_fieldAddr_el (i := k) rfl rfl (fun w h => hr.sl h (fun p hp => by repeat (first | exact hp | exact List.mem_append_left _ hp | apply List.mem_cons_of_mem | apply List.mem_append_right))) hne2 ?_; exact qe) ?_; rotate_left)
      (refine' PG.val rfl rfl (by intro _X; refine TL_load_el1 (u := p) rfl rfl (fun w h => hr.sl h (fun p hp => by repeat (first | exact hp | exact List.mem_append_left _ hp | apply List.mem_cons_of_mem | apply List.mem_append_right))) hpu rfl ?_; exact qe) ?_; rotate_left)
      (refine' pv ?_; rotate_left)
      (refine' PG.val rfl rfl (by intro _X; refine TL_load_el1 (i := 0) (o := 3) rfl rfl (fun w h => t3 _ w (fun p hp => by repeat (first | exact hp | exact List.mem_append_left _ hp | apply List.mem_cons_of_mem | apply List.mem_append_right)) h) rfl rfl ?_; exact qe) ?_; rotate_left)
      (refine' pv ?_; rotate_left)
      exact PG.nil
    change TL _ _ _ _ _ _ _ _ _ _ _
    repeat' (first | refine rn ?_ | (refine zb ?_; intro _ _) | (refine za ?_; intro _ _) | (refine zs ?_; intro _ _))
    refine TC_cond_dec rfl (fun g2 => ?_) (fun g2 => ?_)
    · have hun : unlet d.fr p = { p with let_ := 0, until_ := 0 } := if_pos g2
      repeat' (first | refine rn ?_ | (refine zb ?_; intro _ _) | (refine za ?_; intro _ _) | (refine zs ?_; intro _ _) | (refine nk ?_))
      refine TL_fieldAddr_el (i := k) rfl rfl (fun w h => hr.sl h (fun p hp => by repeat (first | exact hp | exact List.mem_append_left _ hp | apply List.mem_cons_of_mem | apply List.mem_append_right))) hne2 ?_
      refine TL_store_el (enc := encPc) (i := k) (off := 3) (u := p) (u' := { p with let_ := 0 }) (fun o => bkH r b bm { x1 with ob := o } pcs.length G3) hr rfl rfl rfl rfl rfl rfl hpu rfl rfl (fun _ _ _ => up) (fun o1 hr1 => ?_)
      repeat' (first | refine rn ?_ | (refine zb ?_; intro _ _) | (refine za ?_; intro _ _) | (refine zs ?_; intro _ _) | (refine nk ?_))
      refine TL_fieldAddr_el (i := k) rfl rfl (fun w h => hr1.sl h (fun p hp => by repeat (first | exact hp | exact List.mem_append_left _ hp | apply List.mem_cons_of_mem | apply List.mem_append_right))) (fun e => by have := congrArg List.length e; rw [List.length_set, List.length_nil] at this; omega) ?_
      refine TL_store_el (enc := encPc) (i := k) (off := 4) (u := { p with let_ := 0 }) (u' := unlet d.fr p) (fun o => bkH r b bm { x1 with ob := o } pcs.length G3) hr1 rfl rfl rfl rfl rfl rfl (sl_set hpu) (by rw [hun]; rfl) (by rw [hun]; rfl) (fun _ _ _ => up) (fun o2 hr2 => ?_)
      rw [List.set_set, unT_succ d.fr hp] at hr2
      repeat' (first | refine rn ?_ | (refine zb ?_; intro _ _) | (refine za ?_; intro _ _) | (refine zs ?_; intro _ _))
      exact TQ_round (k + 1, o2) ⟨by dsimp only; omega, hr2⟩ (by dsimp only; omega) sb (fun w h => h)
    · have hun : unlet d.fr p = p := if_neg g2
      have hr2 := hr
      rw [← set_same hpu, ← hun, unT_succ d.fr hp] at hr2
      repeat' (first | refine rn ?_ | (refine zb ?_; intro _ _) | (refine za ?_; intro _ _) | (refine zs ?_; intro _ _))
      exact TQ_round (k + 1, ob) ⟨by dsimp only; omega, hr2⟩ (by dsimp only; omega) sb (fun w h => h)
  have ekl : k = pcs.length := by omega
  subst ekl
  rw [unT_all] at hr
  rw [List.take_length]
  have hch1 : chP e 0 (pcs.map (unlet d.fr)) := chP_map (unlet_turn d.fr) hch
  have hdl := divM_len (ownS d.fr pcs) HM
  have hdn := div_nn (n := ownS d.fr pcs) okH hnS.1
  have hds := div_sum (n := ownS d.fr pcs) okH
  have hos1 := ownS_unlet d.fr pcs
  have hml : (pcs.map (unlet d.fr)).length = pcs.length := List.length_map _
  obtain ⟨PL, hPL⟩ : ∃ PL, PL = divM (ownS d.fr pcs) HM := ⟨_, rfl⟩
  have hbn := ownS_nn (fr := d.fr) hch
  repeat' (first | refine rn ?_ | (refine zb ?_; intro _ _) | (refine za ?_; intro _ _) | (refine zs ?_; intro _ _))
  refine TL_callN rfl rfl rfl (fun w h => c190 (ownS d.fr pcs) HM (some ⟨bh, 0, none⟩) hcap okH (by omega) w (th _ w (fun p hp => by repeat (first | exact hp | exact List.mem_append_left _ hp | apply List.mem_cons_of_mem | apply List.mem_append_right)) h)) ?_
  rintro ⟨po, pc, pob⟩ hpr
  dsimp only at hpr ⊢
  rw [← hPL] at hpr hdl hdn hds ⊢
  refine TL_hp (H' := bkH r b bm { x1 with ob := ob } pcs.length (pob ++ G3)) pm_mid ?_
  obtain ⟨G4, hG4⟩ : ∃ G4 : Hp, G4 = pob ++ G3 := ⟨_, rfl⟩
  have g4 : ∀ p ∈ G3, p ∈ G4 := fun p hp => by rw [hG4]; exact List.mem_append_right _ hp
  have g5 : ∀ p ∈ pob, p ∈ G4 := fun p hp => by rw [hG4]; exact List.mem_append_left _ hp
  rw [← hG4]
  have u2 : ∀ (H : Hp) w', (∀ p ∈ G4, p ∈ H) → SH B w0 w' H → Sl w' 1 encV (some ⟨b2, 0, none⟩) [.pointer (some ⟨b, 0, none⟩)] := fun H w' hm h => t2 H w' (fun p hp => hm p (g4 p hp)) h
  have u3 : ∀ (H : Hp) w', (∀ p ∈ G4, p ∈ H) → SH B w0 w' H → Sl w' 9 encDd (some ⟨b3, 0, none⟩) [d] := fun H w' hm h => t3 H w' (fun p hp => hm p (g4 p hp)) h
  have uh : ∀ (H : Hp) w', (∀ p ∈ G4, p ∈ H) → SH B w0 w' H → Sl w' 2 encSp (some ⟨bh, 0, none⟩) HM := fun H w' hm h => th H w' (fun p hp => hm p (g4 p hp)) h
  have up4 : ∀ (H : Hp) w', (∀ p ∈ G4, p ∈ H) → SH B w0 w' H → Sl w' 1 encI po PL := fun H w' hm h => hpr.sl h (fun p hp => hm p (g5 p hp))
  have hHne : HM ≠ [] := okH.ne
  have hM8 := okH.len
  repeat' (first | refine rn ?_ | (refine zb ?_; intro _ _) | (refine za ?_; intro _ _) | (refine zs ?_; intro _ _))
  obtain ⟨T, hT⟩ : ∃ T, T = gvAll d.fr ((HM.map (·.1)).zip PL) (pcs.map (unlet d.fr)) := ⟨_, rfl⟩
  rw [← hT]
  have hzl : ((HM.map (·.1)).zip PL).length = HM.length := by rw [List.length_zip, List.length_map, hdl, Nat.min_self]
  refine TC_loop (σ := Nat × List Pc × Lc) (fun q => q.1 ≤ HM.length ∧ chP e 0 q.2.1 ∧ ownS d.fr q.2.1 = sumI (PL.drop q.1) ∧ gvAll d.fr (((HM.map (·.1)).zip PL).drop q.1) q.2.1 = T ∧ BkOk q.2.2 q.2.1 (deadU d dead)) (fun q => [(2, .pointer (some ⟨b2, 0, none⟩)), (3, .pointer (some ⟨b3, 0, none⟩)), (4, .slice (some ⟨bh, 0, none⟩) HM.length hcap), (77, .slice po HM.length pc), (78, .int .i64 HM.length), (79, .int .i64 q.1)]) (fun q => bkH r b bm q.2.2 q.2.1.length G4) (fun q => HM.length - q.1) (0, pcs.map (unlet d.fr), { x1 with ob := ob }) ⟨Nat.zero_le _, hch1, by dsimp only; rw [hos1, List.drop_zero, hds], hT.symm, ⟨hr, hok1.map⟩⟩ sb (fun w h => by dsimp only; rw [hml]; exact h) (fun q hq => ?_)
  obtain ⟨i, l, y⟩ := q
  obtain ⟨hi, hcl2, hol, hgT, hby⟩ := hq
  dsimp only at hi hcl2 hol hgT hby ⊢
  repeat' (first | refine rn ?_ | (refine zb ?_; intro _ _) | (refine za ?_; intro _ _) | (refine zs ?_; intro _ _))
  refine TC_cond_dec rfl (fun g1 => ?_) (fun g1 => ?_)
  · have hlt : i < HM.length := by omega
    obtain ⟨v, hv⟩ : ∃ v, PL[i]? = some v := ⟨_, List.getElem?_eq_getElem (by omega)⟩
    obtain ⟨hh, hhi⟩ : ∃ hh, HM[i]? = some hh := ⟨_, List.getElem?_eq_getElem hlt⟩
    have hv0 := hdn v (List.mem_of_getElem? hv)
    have hww := hHw hh (List.mem_of_getElem? hhi)
    have hzi : ((HM.map (·.1)).zip PL)[i]? = some (hh.1, v) := by
      rw [List.getElem?_zip_eq_some, List.getElem?_map, hhi, hv]; exact ⟨rfl, rfl⟩
    rw [drop_cons hzi, gvAll] at hgT
    rw [drop_cons hv, sumI] at hol
    have hrest : 0 ≤ sumI (PL.drop (i + 1)) := (le_sumI _ (fun x hx => hdn x (List.mem_of_mem_drop hx))).1
    obtain ⟨L2, hL2⟩ : ∃ L2, L2 = gvP d.fr hh.1 v.toNat v l := ⟨_, rfl⟩
    dsimp only at hgT
    rw [← hL2] at hgT
    have hvb : v ≤ 80000 := by have := (ownS_nn (fr := d.fr) hcl2).2; omega
    repeat' (first | refine rn ?_ | (refine zb ?_; intro _ _) | (refine za ?_; intro _ _) | (refine zs ?_; intro _ _))
    refine TL_index i rfl rfl rfl (fun w h => up4 _ w (fun p hp => by repeat (first | exact hp | exact List.mem_append_left _ hp | apply List.mem_cons_of_mem | apply List.mem_append_right)) h) rfl (by omega) (by omega) ?_
    refine TL_load_el1 (u := v) rfl rfl (fun w h => up4 _ w (fun p hp => by repeat (first | exact hp | exact List.mem_append_left _ hp | apply List.mem_cons_of_mem | apply List.mem_append_right)) h) hv rfl ?_
    repeat' (first | refine rn ?_ | (refine zb ?_; intro _ _) | (refine za ?_; intro _ _) | (refine zs ?_; intro _ _))
    refine TC_loop (σ := Nat × Int × List Pc × Lc) (fun q => 0 ≤ q.2.1 ∧ q.2.1 ≤ v ∧ q.2.1 ≤ q.1 ∧ chP e 0 q.2.2.1 ∧ ownS d.fr q.2.2.1 = q.2.1 + sumI (PL.drop (i + 1)) ∧ gvP d.fr hh.1 q.1 q.2.1 q.2.2.1 = L2 ∧ BkOk q.2.2.2 q.2.2.1 (deadU d dead)) (fun q => [(2, .pointer (some ⟨b2, 0, none⟩)), (3, .pointer (some ⟨b3, 0, none⟩)), (4, .slice (some ⟨bh, 0, none⟩) HM.length hcap), (8, .int .i64 i), (9, .int .i64 q.2.1), (77, .slice po HM.length pc), (78, .int .i64 HM.length), (79, .int .i64 i)]) (fun q => bkH r b bm q.2.2.2 q.2.2.1.length G4) (fun q => q.2.1.toNat) (v.toNat, v, l, y) ⟨hv0, Int.le_refl _, by dsimp only; omega, hcl2, hol, hL2.symm, hby⟩ sb (fun w h => h) (fun q hq => ?_)
    obtain ⟨f, part, l2, y2⟩ := q
    obtain ⟨hp0, hpv, hpf, hc3, ho3, hg3, hb3⟩ := hq
    dsimp only at hp0 hpv hpf hc3 ho3 hg3 hb3 ⊢
    repeat' (first | refine rn ?_ | (refine zb ?_; intro _ _) | (refine za ?_; intro _ _) | (refine zs ?_; intro _ _))
    refine TC_cond_dec rfl (fun g2 => ?_) (fun g2 => ?_)
    · obtain ⟨f, rfl⟩ : ∃ f', f = f' + 1 := ⟨f - 1, by omega⟩
      obtain ⟨k, p, e1, e2, e3, e4, e5, e6, e7, e8, e9⟩ := gv_step (fr := d.fr) g2 hc3 (by omega)
      have e9 := e9 hh.1 hww
      have hl3 := chP_len hc3
      have hl4 := chP_len e8
      have hr2 := hb3.row
      have hpm := chP_mem hc3 p (List.mem_of_getElem? e2)
      have hk2 := (List.getElem?_eq_some_iff.1 e2).1
      have hk4 := (List.getElem?_eq_some_iff.1 e7).1
      have hne2 : l2 ≠ [] := fun e => by rw [e] at e2; simp at e2
      have hne4 : cutP (mO part p) l2 ≠ [] := fun e => by rw [e] at e7; simp at e7
      rw [gvP, if_pos g2] at hg3
      dsimp only at hg3
      have ep : l2.getD k pc0 = p := by rw [List.getD_eq_getElem?_getD, e2]; rfl
      have eq : (cutP (mO part p) l2).getD k pc0 = { p with turn := (p.turn.1, mO part p) } := by rw [List.getD_eq_getElem?_getD, e7]; rfl
      rw [e1, Int.toNat_natCast, ep, eq] at hg3
      repeat' (first | refine rn ?_ | (refine zb ?_; intro _ _) | (refine za ?_; intro _ _) | (refine zs ?_; intro _ _))
      refine TL_load_el1 (i := 0) (o := 0) rfl rfl (fun w h => u2 _ w (fun p hp => by repeat (first | exact hp | exact List.mem_append_left _ hp | apply List.mem_cons_of_mem | apply List.mem_append_right)) h) rfl rfl ?_
      repeat' (first | refine rn ?_ | (refine zb ?_; intro _ _) | (refine za ?_; intro _ _) | (refine zs ?_; intro _ _) | (refine nk ?_))
      refine TL_callV rfl rfl rfl (fun w h => c41 (isO d.fr) 192 [.pointer (some ⟨b3, 0, none⟩)] l2 y2.ao y2.cap (by unfold Small; omega) w (hr2.sl h (fun p hp => by repeat (first | exact hp | exact List.mem_append_left _ hp | apply List.mem_cons_of_mem | apply List.mem_append_right))) (fun p _ w' hb => c192 p d b3 w' ((u3 _ w (fun p hp => by repeat (first | exact hp | exact List.mem_append_left _ hp | apply List.mem_cons_of_mem | apply List.mem_append_right)) h).mono hb))) ?_
      rw [e1]
      repeat' (first | refine rn ?_ | (refine zb ?_; intro _ _) | (refine za ?_; intro _ _) | (refine zs ?_; intro _ _))
      apply TC_draw 22; kernel_rfl; exact Tryz.mixed
      · (refine' PG.val rfl rfl (by intro _X; refine TL_load_el1 (i := 0) (o := 0) rfl rfl (fun w h => u2 _ w (fun p hp => by repeat (first | exact hp | exact List.mem_append_left _ hp | apply List.mem_cons_of_mem | apply List.mem_append_right)) h) rfl rfl ?_; exact qe) ?_; rotate_left)
        (refine' PG.val rfl rfl (by intro _X; refine TL_load_el1 (i := 0) (o := 0) rfl rfl (fun w h => u2 _ w (fun p hp => by repeat (first | exact hp | exact List.mem_append_left _ hp | apply List.mem_cons_of_mem | apply List.mem_append_right)) h) rfl rfl ?_; exact qe) ?_; rotate_left)
        (refine' PG.val rfl rfl (by intro _X; refine TL_nilCheck rfl rfl ?_; exact qe) ?_; rotate_left)
        iterate 3 (refine' pv ?_; rotate_left)
        (refine' PG.val rfl rfl (by intro _X; refine TL_index k rfl rfl rfl (fun w h => hr2.sl h (fun p hp => by repeat (first | exact hp | exact List.mem_append_left _ hp | apply List.mem_cons_of_mem | apply List.mem_append_right))) rfl (by omega) (by omega) ?_; exact qe) ?_; rotate_left)
        (refine' PG.val rfl rfl (by intro _X; refine TL_fieldAddr_el (i := k) rfl rfl (fun w h => hr2.sl h (fun p hp => by repeat (first | exact hp | exact List.mem_append_left _ hp | apply List.mem_cons_of_mem | apply List.mem_append_right))) hne2 ?_; exact qe) ?_; rotate_left)
        (refine' PG.val rfl rfl (by intro _X; refine TL_fieldAddr_el (i := k) rfl rfl (fun w h => hr2.sl h (fun p hp => by repeat (first | exact hp | exact List.mem_append_left _ hp | apply List.mem_cons_of_mem | apply List.mem_append_right))) hne2 ?_; exact qe) ?_; rotate_left)
        (refine' PG.val rfl rfl (by intro _X; refine TL_load_el1 (u := p) rfl rfl (fun w h => hr2.sl h (fun p hp => by repeat (first | exact hp | exact List.mem_append_left _ hp | apply List.mem_cons_of_mem | apply List.mem_append_right))) e2 rfl ?_; exact qe) ?_; rotate_left)
        iterate 2 (refine' pv ?_; rotate_left)
        (refine' PG.val rfl rfl (by intro _X; refine TL_load_el1 (i := 0) (o := 0) rfl rfl (fun w h => u2 _ w (fun p hp => by repeat (first | exact hp | exact List.mem_append_left _ hp | apply List.mem_cons_of_mem | apply List.mem_append_right)) h) rfl rfl ?_; exact qe) ?_; rotate_left)
        (refine' PG.val rfl rfl (by intro _X; refine TL_nilCheck rfl rfl ?_; exact qe) ?_; rotate_left)
        iterate 3 (refine' pv ?_; rotate_left)
        (refine' PG.val rfl rfl (by intro _X; refine TL_index k rfl rfl rfl (fun w h => hr2.sl h (fun p hp => by repeat (first | exact hp | exact List.mem_append_left _ hp | apply List.mem_cons_of_mem | apply List.mem_append_right))) rfl (by omega) (by omega) ?_; exact qe) ?_; rotate_left)
        (refine' PG.val rfl rfl (by intro _X; refine TL_fieldAddr_el (i := k) rfl rfl (fun w h => hr2.sl h (fun p hp => by repeat (first | exact hp | exact List.mem_append_left _ hp | apply List.mem_cons_of_mem | apply List.mem_append_right))) hne2 ?_; exact qe) ?_; rotate_left)
        (refine' PG.val rfl rfl (by intro _X; refine TL_fieldAddr_el (i := k) rfl rfl (fun w h => hr2.sl h (fun p hp => by repeat (first | exact hp | exact List.mem_append_left _ hp | apply List.mem_cons_of_mem | apply List.mem_append_right))) hne2 ?_; exact qe) ?_; rotate_left)
        (refine' PG.val rfl rfl (by intro _X; refine TL_load_el1 (u := p) rfl rfl (fun w h => hr2.sl h (fun p hp => by repeat (first | exact hp | exact List.mem_append_left _ hp | apply List.mem_cons_of_mem | apply List.mem_append_right))) e2 rfl ?_; exact qe) ?_; rotate_left)
        (refine' pv ?_; rotate_left)
        exact PG.nil
      change TL _ _ _ _ _ _ _ _ _ _ _
      refine TL_call rfl rfl rfl _ _ _ (fun w h => c193 r b bm y2 l2 (deadU d dead) (mO part p) hb3 (by omega) w h) ?_
      intro y3 hb4
      have hr4 := hb4.row
      repeat' (first | refine rn ?_ | (refine zb ?_; intro _ _) | (refine za ?_; intro _ _) | (refine zs ?_; intro _ _))
      apply TC_draw 10; kernel_rfl; exact Tryz.mixed
      · (refine' PG.val rfl rfl (by intro _X; refine TL_load_el1 (i := 0) (o := 0) rfl rfl (fun w h => u2 _ w (fun p hp => by repeat (first | exact hp | exact List.mem_append_left _ hp | apply List.mem_cons_of_mem | apply List.mem_append_right)) h) rfl rfl ?_; exact qe) ?_; rotate_left)
        (refine' PG.val rfl rfl (by intro _X; refine TL_nilCheck rfl rfl ?_; exact qe) ?_; rotate_left)
        iterate 5 (refine' pv ?_; rotate_left)
        (refine' PG.val rfl rfl (by intro _X; refine TL_index i rfl rfl rfl (fun w h => uh _ w (fun p hp => by repeat (first | exact hp | exact List.mem_append_left _ hp | apply List.mem_cons_of_mem | apply List.mem_append_right)) h) rfl (by omega) (by omega) ?_; exact qe) ?_; rotate_left)
        (refine' PG.val rfl rfl (by intro _X; refine TL_fieldAddr_el (i := i) rfl rfl (fun w h => uh _ w (fun p hp => by repeat (first | exact hp | exact List.mem_append_left _ hp | apply List.mem_cons_of_mem | apply List.mem_append_right)) h) hHne ?_; exact qe) ?_; rotate_left)
        (refine' PG.val rfl rfl (by intro _X; refine TL_load_el1 (u := hh) rfl rfl (fun w h => uh _ w (fun p hp => by repeat (first | exact hp | exact List.mem_append_left _ hp | apply List.mem_cons_of_mem | apply List.mem_append_right)) h) hhi rfl ?_; exact qe) ?_; rotate_left)
        exact PG.nil
      change TL _ _ _ _ _ _ _ _ _ _ _
      refine TL_index k rfl rfl rfl (fun w h => hr4.sl h (fun p hp => by repeat (first | exact hp | exact List.mem_append_left _ hp | apply List.mem_cons_of_mem | apply List.mem_append_right))) rfl (by omega) (by omega) ?_
      refine TL_fieldAddr_el (i := k) rfl rfl (fun w h => hr4.sl h (fun p hp => by repeat (first | exact hp | exact List.mem_append_left _ hp | apply List.mem_cons_of_mem | apply List.mem_append_right))) hne4 ?_
      refine TL_store_el (enc := encPc) (i := k) (off := 2) (u := { p with turn := (p.turn.1, mO part p) }) (u' := { p with turn := (p.turn.1, mO part p), owner := hh.1 }) (fun o => bkH r b bm { y3 with ob := o } (cutP (mO part p) l2).length G4) hr4 rfl rfl rfl rfl rfl rfl e7 rfl rfl (fun _ _ _ => up) (fun o5 hr5 => ?_)
      have e7b := sl_set (u := ({ p with turn := (p.turn.1, mO part p), owner := hh.1 } : Pc)) e7
      have hll : ((cutP (mO part p) l2).set k { p with turn := (p.turn.1, mO part p), owner := hh.1 }).length = (cutP (mO part p) l2).length := List.length_set
      have hne5 : (cutP (mO part p) l2).set k { p with turn := (p.turn.1, mO part p), owner := hh.1 } ≠ [] := fun e => by rw [e] at e7b; simp at e7b
      repeat' (first | refine rn ?_ | (refine zb ?_; intro _ _) | (refine za ?_; intro _ _) | (refine zs ?_; intro _ _))
      apply TC_draw 21; kernel_rfl; exact Tryz.mixed
      · (refine' pv ?_; rotate_left)
        (refine' PG.val rfl rfl (by intro _X; refine TL_load_el1 (i := 0) (o := 0) rfl rfl (fun w h => u2 _ w (fun p hp => by repeat (first | exact hp | exact List.mem_append_left _ hp | apply List.mem_cons_of_mem | apply List.mem_append_right)) h) rfl rfl ?_; exact qe) ?_; rotate_left)
        (refine' PG.val rfl rfl (by intro _X; refine TL_nilCheck rfl rfl ?_; exact qe) ?_; rotate_left)
        iterate 3 (refine' pv ?_; rotate_left)
        (refine' PG.val rfl rfl (by intro _X; refine TL_index k rfl rfl rfl (fun w h => hr5.sl h (fun p hp => by repeat (first | exact hp | exact List.mem_append_left _ hp | apply List.mem_cons_of_mem | apply List.mem_append_right))) rfl (by omega) (by omega) ?_; exact qe) ?_; rotate_left)
        (refine' PG.val rfl rfl (by intro _X; refine TL_fieldAddr_el (i := k) rfl rfl (fun w h => hr5.sl h (fun p hp => by repeat (first | exact hp | exact List.mem_append_left _ hp | apply List.mem_cons_of_mem | apply List.mem_append_right))) hne5 ?_; exact qe) ?_; rotate_left)
        (refine' PG.val rfl rfl (by intro _X; refine TL_fieldAddr_el (i := k) rfl rfl (fun w h => hr5.sl h (fun p hp => by repeat (first | exact hp | exact List.mem_append_left _ hp | apply List.mem_cons_of_mem | apply List.mem_append_right))) hne5 ?_; exact qe) ?_; rotate_left)
        (refine' PG.val rfl rfl (by intro _X; refine TL_load_el1 (u := { p with turn := (p.turn.1, mO part p), owner := hh.1 }) rfl rfl (fun w h => hr5.sl h (fun p hp => by repeat (first | exact hp | exact List.mem_append_left _ hp | apply List.mem_cons_of_mem | apply List.mem_append_right))) e7b rfl ?_; exact qe) ?_; rotate_left)
        (refine' PG.val rfl rfl (by intro _X; refine TL_load_el1 (i := 0) (o := 0) rfl rfl (fun w h => u2 _ w (fun p hp => by repeat (first | exact hp | exact List.mem_append_left _ hp | apply List.mem_cons_of_mem | apply List.mem_append_right)) h) rfl rfl ?_; exact qe) ?_; rotate_left)
        (refine' PG.val rfl rfl (by intro _X; refine TL_nilCheck rfl rfl ?_; exact qe) ?_; rotate_left)
        iterate 3 (refine' pv ?_; rotate_left)
        (refine' PG.val rfl rfl (by intro _X; refine TL_index k rfl rfl rfl (fun w h => hr5.sl h (fun p hp => by repeat (first | exact hp | exact List.mem_append_left _ hp | apply List.mem_cons_of_mem | apply List.mem_append_right))) rfl (by omega) (by omega) ?_; exact qe) ?_; rotate_left)
        (refine' PG.val rfl rfl (by intro _X; refine TL_fieldAddr_el (i := k) rfl rfl (fun w h => hr5.sl h (fun p hp => by repeat (first | exact hp | exact List.mem_append_left _ hp | apply List.mem_cons_of_mem | apply List.mem_append_right))) hne5 ?_; exact qe) ?_; rotate_left)
        (refine' PG.val rfl rfl (by intro _X; refine TL_fieldAddr_el (i := k) rfl rfl (fun w h => hr5.sl h (fun p hp => by repeat (first | exact hp | exact List.mem_append_left _ hp | apply List.mem_cons_of_mem | apply List.mem_append_right))) hne5 ?_; exact qe) ?_; rotate_left)
        (refine' PG.val rfl rfl (by intro _X; refine TL_load_el1 (u := { p with turn := (p.turn.1, mO part p), owner := hh.1 }) rfl rfl (fun w h => hr5.sl h (fun p hp => by repeat (first | exact hp | exact List.mem_append_left _ hp | apply List.mem_cons_of_mem | apply List.mem_append_right))) e7b rfl ?_; exact qe) ?_; rotate_left)
        iterate 2 (refine' pv ?_; rotate_left)
        exact PG.nil
      change TL _ _ _ _ _ _ _ _ _ _ _
      repeat' (first | refine rn ?_ | (refine zb ?_; intro _ _) | (refine za ?_; intro _ _) | (refine zs ?_; intro _ _))
      rw [← hll]
      exact TQ_round (f, part - (mO part p - p.turn.1), (cutP (mO part p) l2).set k { p with turn := (p.turn.1, mO part p), owner := hh.1 }, { y3 with ob := o5 }) ⟨by dsimp only; omega, by dsimp only; omega, by dsimp only; omega, chP_set (by rfl) e8 e7, by dsimp only; omega, hg3, ⟨hr5, hb4.map⟩⟩ (by dsimp only; omega) sb (fun w h => h)
    · have epz : part = 0 := by omega
      have eL : gvP d.fr hh.1 f part l2 = l2 := by
        cases f with
        | zero => rfl
        | succ f => rw [gvP, if_neg g2]
      rw [eL] at hg3
      subst hg3
      repeat' (first | refine rn ?_ | (refine zb ?_; intro _ _) | (refine za ?_; intro _ _) | (refine zs ?_; intro _ _))
      exact TQ_round (i + 1, l2, y2) ⟨by dsimp only; omega, hc3, by dsimp only; omega, hgT, hb3⟩ (by dsimp only; omega) sb (fun w h => h)
  · have ei : i = HM.length := by omega
    have hdz : ((HM.map (·.1)).zip PL).drop i = [] := List.drop_eq_nil_of_le (by omega)
    rw [hdz, gvAll] at hgT
    subst hgT
    repeat' (first | refine rn ?_ | (refine zb ?_; intro _ _) | (refine za ?_; intro _ _) | (refine zs ?_; intro _ _))
    refine TQ_end0 Tryz.results158 (fun w' hs => ⟨y, hby, rfl, hs.sub ?_⟩)
    rw [hG4, hG3, hG2]
    exact List.Sublist.cons_cons _ (List.Sublist.cons_cons _ (List.Sublist.append_left (List.sublist_append_of_sublist_right (List.Sublist.cons _ (List.Sublist.cons _ (List.Sublist.cons _ (List.Sublist.refl _))))) _))
end Go.Proofs.YtkpkebpofpcmaaaGreatDoor
