/- Walks of the package channel: which canals are dry at each use. -/
import Derived.Test.YtkpkebpofpcmaaaGreatDoorC4
namespace Go.Proofs.YtkpkebpofpcmaaaGreatDoor
open Go Go.Eng Go.RowKit Go.Proofs
set_option maxHeartbeats 4000000
set_option maxRecDepth 10000
attribute [local irreducible] TL TC TQ

theorem zero3 (w : World) : (zeroValue 3).run Tryz.prog w = .ok (.int .i64 0) w := by
  obtain ⟨i, hi, hz⟩ := Option.map_eq_some_iff.1 (show (Tryz.prog.info? 3).map (fun i => i.zero) = some (some (Value.int .i64 0)) by kernel_rfl)
  simp [zeroValue, typeInfo, hi, hz]
/-- A map whose values are small numbers. -/
def MF (es : List MapEntry) : Prop := ∃ f, MR .i64 es f ∧ ∀ k v, f k = some v → ∃ z : Int, v = .int .i64 z ∧ -100000 ≤ z ∧ z ≤ 100000
theorem MF.nil : MF [] := ⟨_, MR.nil, fun k v h => by cases h⟩
theorem MF.get {f : Int → Option Value} (h : ∀ k v, f k = some v → ∃ z : Int, v = .int .i64 z ∧ -100000 ≤ z ∧ z ≤ 100000) (k : Int) : ∃ z : Int, (f k).getD (.int .i64 0) = .int .i64 z ∧ -100000 ≤ z ∧ z ≤ 100000 := by
  cases hf : f k with
  | none => exact ⟨0, rfl, by decide, by decide⟩
  | some v => obtain ⟨z, rfl, h1, h2⟩ := h k v hf; exact ⟨z, rfl, h1, h2⟩
theorem MF.upd {f : Int → Option Value} (h : ∀ k v, f k = some v → ∃ z : Int, v = .int .i64 z ∧ -100000 ≤ z ∧ z ≤ 100000) {es : List MapEntry} {k z : Int} (h1 : -100000 ≤ z) (h2 : z ≤ 100000) (hr : MR .i64 es (fupd f k (.int .i64 z))) : MF es := by
  refine ⟨_, hr, fun j v hv => ?_⟩
  unfold fupd at hv
  split at hv
  · cases hv; exact ⟨z, rfl, h1, h2⟩
  · exact h j v hv
/-- What a use yields: the use, and some list of canals. -/
def DrY (l : List Us) {σ : Type} (j : Nat) (_ : σ) (vs : List Value) (G : Hp) : Prop :=
  ∃ u dl so cap ob, l[j]? = some u ∧ vs = [.agg (encUs u).toArray, .slice so dl.length cap] ∧ dl.length ≤ 17 ∧ Row 3 1 encI so cap ob dl ∧ ∀ p ∈ ob, p ∈ G
def slV (x : Value) : List Value := [x]
theorem c134 {σ : Type} {w0 : World} (n : Nt) (hn : OkNt n) (l : List Us) (ao : Option Addr) (c : Nat) (h60 : l.length ≤ 60) (hr : rightP n 0 l) (b2 b3 lp : Nat) (p : Nat → σ → Prop) (Y : Nat → σ → Hp) (x0 : σ) (hp0 : p 0 x0)
    (hY : YldY Tryz.prog w0.heap.size w0 lp l.length (DrY l) p Y (fun j => !(false && Nat.beq (j + 1) l.length)))
    (hb2 : ∀ j x, (b2, Blk.cells (encNt n) 128) ∈ Y j x) (hb3 : ∀ j x, (b3, Blk.cells [.slice ao l.length c] 74) ∈ Y j x) (hnc : Sl w0 5 encCn n.cao n.canals) (hnf : Sl w0 1 encI n.fao n.fields) (hl : Sl w0 3 encUs ao l) (w : World) (hs : SH w0.heap.size w0 w (Y 0 x0)) :
    Calls Tryz.prog 134 #[.func (.yield lp) #[] #[], .pointer (some ⟨b3, 0, none⟩), .pointer (some ⟨b2, 0, none⟩)] w (RetP w0.heap.size w0 (fun _ : σ => .tuple #[]) (Y l.length) (p l.length)) := by
  have hd := hn.days.1; have hd2 := hn.days.2; have hdr1 := hn.dry.1; have hdr2 := hn.dry.2
  have sN : ∀ {w' H'}, SH w0.heap.size w0 w' H' → (b2, Blk.cells (encNt n) 128) ∈ H' → Sl w' 4 encNt (some ⟨b2, 0, none⟩) [n] := fun h hm => Sl.of_blk h hm (fun _ _ => rfl) ⟨[], rfl⟩
  have sU : ∀ {w' H'}, SH w0.heap.size w0 w' H' → (b3, Blk.cells [.slice ao l.length c] 74) ∈ H' → Sl w' 1 slV (some ⟨b3, 0, none⟩) [.slice ao l.length c] := fun h hm => Sl.of_blk h hm (fun _ _ => rfl) ⟨[], rfl⟩
  refine enterM (args := [.func (.yield lp) #[] #[], .pointer (some ⟨b3, 0, none⟩), .pointer (some ⟨b2, 0, none⟩)]) Tryz.func134 rfl Tryz.ntmps134 rfl hs ?_
  repeat' (first | refine rn ?_ | (refine zb ?_; intro _ _) | (refine za ?_; intro _ _) | (refine zs ?_; intro _ _))
  refine TL_makeMap rfl (fun bm _ => ?_)
  repeat' (first | refine rn ?_ | (refine zb ?_; intro _ _) | (refine za ?_; intro _ _) | (refine zs ?_; intro _ _))
  rename_i b4 _
  refine TL_load_el1 (u := .slice ao l.length c) (i := 0) (o := 0) rfl rfl (fun w h => sU h (by simp only [List.mem_append, List.mem_cons, hb3, true_or, or_true])) rfl rfl ?_
  repeat' (first | refine rn ?_ | (refine zb ?_; intro _ _) | (refine za ?_; intro _ _) | (refine zs ?_; intro _ _))
  refine TC_loopD (σ := Nat × List Nat × Array MapEntry × Nat) (fun q => q.1 ≤ l.length ∧ MF q.2.2.1.toList) (fun q => marksD q.2.1) (fun q => [(0, .func (.yield lp) #[] #[]), (1, .pointer (some ⟨b3, 0, none⟩)), (2, .pointer (some ⟨b2, 0, none⟩)), (4, .pointer (some ⟨b4, 0, none⟩)), (14, .slice ao l.length c), (15, .int .i64 l.length), (16, .int .i64 q.1)]) (fun q => (b4, .cells [.map (some bm)] 228) :: (bm, .obj (.map q.2.2.1 q.2.2.2)) :: (marksH q.2.1 ++ Y 0 x0)) (fun q => l.length - q.1) (0, [], #[], 0) ⟨Nat.zero_le _, MF.nil⟩ rfl sb (fun w h => h) (fun q hq => ?_)
  obtain ⟨k, ds, es, clk⟩ := q
  obtain ⟨hk, hmf⟩ := hq
  dsimp only at hk hmf ⊢
  repeat' (first | refine rn ?_ | (refine zb ?_; intro _ _) | (refine za ?_; intro _ _) | (refine zs ?_; intro _ _))
  refine TC_cond_dec rfl (fun g1 => ?_) (fun g1 => ?_)
  · have hlt : k < l.length := by omega
    obtain ⟨u, hu⟩ : ∃ x, l[k]? = some x := ⟨_, List.getElem?_eq_getElem hlt⟩
    obtain ⟨q1, q2, q3, q4⟩ := rightP_get hr hu
    have q0 : 0 ≤ u.turn.1 := q2
    obtain ⟨uf, ut⟩ := u
    dsimp only at q0 q1 q2 q3 q4
    obtain ⟨fi, rfl⟩ : ∃ fi : Nat, uf = fi := ⟨uf.toNat, by have := q1.1; omega⟩
    have hfi : fi < n.fields.length := by have := q1.2; omega
    repeat' (first | refine rn ?_ | (refine zb ?_; intro _ _) | (refine za ?_; intro _ _) | (refine zs ?_; intro _ _))
    refine TL_index k rfl rfl rfl (fun w h => h.sl hl) rfl hlt (Nat.le_refl _) ?_
    refine TL_load_eln (u := ⟨(fi : Int), ut⟩) rfl rfl (fun w h => h.sl hl) hu rfl ?_
    repeat' (first | refine rn ?_ | (refine zb ?_; intro _ _) | (refine za ?_; intro _ _) | (refine zs ?_; intro _ _))
    rename_i b6 _
    refine TL_load_eln (u := n) (i := 0) (o := 0) rfl rfl (fun w h => sN h (by simp only [List.mem_append, List.mem_cons, hb2, true_or, or_true])) rfl rfl ?_
    repeat' (first | refine rn ?_ | (refine zb ?_; intro _ _) | (refine za ?_; intro _ _) | (refine zs ?_; intro _ _))
    refine TL_callN rfl rfl rfl (fun w h => c96 n fi w) ?_
    rintro ⟨bq1, bq2⟩ _
    dsimp only
    repeat' (first | refine rn ?_ | (refine zb ?_; intro _ _) | (refine za ?_; intro _ _) | (refine zs ?_; intro _ _))
    refine TC_rangeX (σ := Array MapEntry × Nat) (ps := [24]) (k := 133) rfl rfl (upM n fi).length false (fun h => by cases h) (fun j => [.int .i64 ((upM n fi).getD j 0)])
      (fun j x => MF x.1.toList) (fun x => [(bq2, .cells [.int .i64 fi] 3), (bq1, .cells (encNt n) 128)] ++ ((b6, .cells (encUs ⟨(fi : Int), ut⟩) 73) :: (b4, .cells [.map (some bm)] 228) :: (bm, .obj (.map x.1 x.2)) :: (marksH ds ++ Y 0 x0))) (es, clk) hmf (fun j => rfl) (fun w h => h) ?_ ?_ ?_
    · intro lp2 Dd rec j x G hj hpx
      obtain ⟨es1, clk1⟩ := x
      dsimp only at hpx ⊢
      repeat' (first | refine rn ?_ | (refine zb ?_; intro _ _) | (refine za ?_; intro _ _) | (refine zs ?_; intro _ _))
      refine TQ_asgX up ?_
      repeat' (first | refine rn ?_ | (refine zb ?_; intro _ _) | (refine za ?_; intro _ _) | (refine zs ?_; intro _ _))
      apply TC_draw 8; kernel_rfl; exact Tryz.mixed
      · iterate 5 (refine' pv ?_; rotate_left)
        (refine' PG.val rfl rfl (by intro _X; refine TL_load_eln (u := n) (i := 0) (o := 0) rfl rfl (fun w h => sN h (by simp only [List.mem_append, List.mem_cons, hb2, true_or, or_true])) rfl rfl ?_; exact qe) ?_; rotate_left)
        (refine' PG.val rfl rfl (by intro _X; refine TL_callV rfl rfl rfl (fun w h => c54 n hn w) ?_; exact qe) ?_; rotate_left)
        (refine' pv ?_; rotate_left)
        exact PG.nil
      change TL _ _ _ _ _ _ _ _ _ _ _
      obtain ⟨f, hmr, hfb⟩ := hpx
      refine TL_mapSet (.inl rfl) rfl rfl rfl (fun _ _ => up) hmr (fun es2 clk2 hmr2 => ?_)
      repeat' (first | refine rn ?_ | (refine zb ?_; intro _ _) | (refine za ?_; intro _ _) | (refine zs ?_; intro _ _))
      refine TQ_bodyX (es2, clk2) (MF.upd hfb (by dsimp only; omega) (by dsimp only; omega) hmr2) (fun w h => h)
    · intro lp2 Y2 G hYG hy w' hs'
      refine c133 n hn fi hfi bq1 bq2 lp2 _ Y2 _ hmf hy (fun j x w'' h => ?_) w' hs'
      rw [hYG] at h
      exact ⟨Sl.of_blk h (List.mem_append_right _ (List.mem_append_left _ (List.Mem.tail _ (List.Mem.head _)))) (fun _ _ => rfl) ⟨[], rfl⟩, Sl.of_blk h (List.mem_append_right _ (List.mem_append_left _ (List.Mem.head _))) (fun _ _ => rfl) ⟨[], rfl⟩, h.sl hnc, h.sl hnf⟩
    · intro Dd x hpx
      obtain ⟨es1, clk1⟩ := x
      dsimp only at hpx ⊢
      repeat' (first | refine rn ?_ | (refine zb ?_; intro _ _) | (refine za ?_; intro _ _) | (refine zs ?_; intro _ _))
      refine TQ_roundD (k + 1, Dd :: ds, es1, clk1) ⟨by dsimp only; omega, hpx⟩ (by dsimp only; omega) rfl sb (fun w h => ?_)
      have h2 : SH w0.heap.size w0 w ((Dd, .obj (.deferred (some []))) :: ([(b4, .cells [.map (some bm)] 228), (bm, .obj (.map es1 clk1))] ++ (marksH ds ++ Y 0 x0))) := h.sub (List.Sublist.cons_cons _ (List.Sublist.cons _ (List.Sublist.cons _ (List.Sublist.cons _ (List.Sublist.refl _)))))
      exact h2.perm (List.perm_middle (l₁ := [_, _]))
  · repeat' (first | refine rn ?_ | (refine zb ?_; intro _ _) | (refine za ?_; intro _ _) | (refine zs ?_; intro _ _))
    refine TL_load_el1 (u := .slice ao l.length c) (i := 0) (o := 0) rfl rfl (fun w h => sU h (by simp only [List.mem_append, List.mem_cons, hb3, true_or, or_true])) rfl rfl ?_
    repeat' (first | refine rn ?_ | (refine zb ?_; intro _ _) | (refine za ?_; intro _ _) | (refine zs ?_; intro _ _))
    refine TC_loop (σ := Nat × σ × Array MapEntry × Nat) (fun q => q.1 ≤ l.length ∧ p q.1 q.2.1 ∧ MF q.2.2.1.toList) (fun q => [(0, .func (.yield lp) #[] #[]), (1, .pointer (some ⟨b3, 0, none⟩)), (2, .pointer (some ⟨b2, 0, none⟩)), (4, .pointer (some ⟨b4, 0, none⟩)), (34, .slice ao l.length c), (35, .int .i64 l.length), (36, .int .i64 q.1)]) (fun q => (b4, .cells [.map (some bm)] 228) :: (bm, .obj (.map q.2.2.1 q.2.2.2)) :: (marksH ds ++ Y q.1 q.2.1)) (fun q => l.length - q.1) (0, x0, es, clk) ⟨Nat.zero_le _, hp0, hmf⟩ sb (fun w h => h) (fun q hq => ?_)
    clear hmf
    obtain ⟨k, x, es, clk⟩ := q
    obtain ⟨hk, hpx, hmf⟩ := hq
    dsimp only at hk hpx hmf ⊢
    repeat' (first | refine rn ?_ | (refine zb ?_; intro _ _) | (refine za ?_; intro _ _) | (refine zs ?_; intro _ _))
    refine TC_cond_dec rfl (fun g1 => ?_) (fun g1 => ?_)
    · have hlt : k < l.length := by omega
      obtain ⟨u, hu⟩ : ∃ x, l[k]? = some x := ⟨_, List.getElem?_eq_getElem hlt⟩
      obtain ⟨q1, q2, q3, q4⟩ := rightP_get hr hu
      have q0 : 0 ≤ u.turn.1 := q2
      obtain ⟨uf, ut⟩ := u
      dsimp only at q0 q1 q2 q3 q4
      obtain ⟨fi, rfl⟩ : ∃ fi : Nat, uf = fi := ⟨uf.toNat, by have := q1.1; omega⟩
      have hfi : fi < n.fields.length := by have := q1.2; omega
      have hpl : (pathM n fi).length ≤ 17 := by unfold pathM; rw [List.length_reverse]; exact upF_len _ _
      repeat' (first | refine rn ?_ | (refine zb ?_; intro _ _) | (refine za ?_; intro _ _) | (refine zs ?_; intro _ _))
      refine TL_index k rfl rfl rfl (fun w h => h.sl hl) rfl hlt (Nat.le_refl _) ?_
      refine TL_load_eln (u := ⟨(fi : Int), ut⟩) rfl rfl (fun w h => h.sl hl) hu rfl ?_
      repeat' (first | refine rn ?_ | (refine zb ?_; intro _ _) | (refine za ?_; intro _ _) | (refine zs ?_; intro _ _))
      rename_i b9 _
      refine TL_load_eln (u := n) (i := 0) (o := 0) rfl rfl (fun w h => sN h (by simp only [List.mem_append, List.mem_cons, hb2, true_or, or_true])) rfl rfl ?_
      repeat' (first | refine rn ?_ | (refine zb ?_; intro _ _) | (refine za ?_; intro _ _) | (refine zs ?_; intro _ _))
      refine TL_callN rfl rfl rfl (fun w h => c52 n hn fi hfi w (h.sl hnc) (h.sl hnf)) ?_
      rintro ⟨so, sc, ob⟩ hrow
      dsimp only at hrow ⊢
      repeat' (first | refine rn ?_ | (refine zb ?_; intro _ _) | (refine za ?_; intro _ _) | (refine zs ?_; intro _ _))
      refine TC_loop (σ := Nat × Array MapEntry × Nat × Option Addr × Nat × Hp × List Int) (fun q => q.1 ≤ (pathM n fi).length ∧ MF q.2.1.toList ∧ q.2.2.2.2.2.2.length ≤ q.1 ∧ Row 3 1 encI q.2.2.2.1 q.2.2.2.2.1 q.2.2.2.2.2.1 q.2.2.2.2.2.2)
        (fun q => [(0, .func (.yield lp) #[] #[]), (1, .pointer (some ⟨b3, 0, none⟩)), (2, .pointer (some ⟨b2, 0, none⟩)), (4, .pointer (some ⟨b4, 0, none⟩)), (34, .slice ao l.length c), (35, .int .i64 l.length), (36, .int .i64 k), (9, .pointer (some ⟨b9, 0, none⟩)), (10, .slice q.2.2.2.1 q.2.2.2.2.2.2.length q.2.2.2.2.1), (43, .slice so (pathM n fi).length sc), (44, .int .i64 (pathM n fi).length), (45, .int .i64 q.1)])
        (fun q => q.2.2.2.2.2.1 ++ (ob ++ ((b9, .cells (encUs ⟨(fi : Int), ut⟩) 73) :: (b4, .cells [.map (some bm)] 228) :: (bm, .obj (.map q.2.1 q.2.2.1)) :: (marksH ds ++ Y k x)))) (fun q => (pathM n fi).length - q.1) (0, es, clk, none, 0, [], []) ⟨Nat.zero_le _, hmf, Nat.le_refl _, Row.nil _ _ _⟩ sb (fun w h => h) (fun q hq => ?_)
      clear hmf
      obtain ⟨j, es, clk, so2, sc2, ob2, dl⟩ := q
      obtain ⟨hj, hmf, hdl, hrow2⟩ := hq
      dsimp only at hj hmf hdl hrow2 ⊢
      repeat' (first | refine rn ?_ | (refine zb ?_; intro _ _) | (refine za ?_; intro _ _) | (refine zs ?_; intro _ _))
      refine TC_cond_dec rfl (fun g2 => ?_) (fun g2 => ?_)
      · have hjl : j < (pathM n fi).length := by omega
        obtain ⟨v, hv⟩ : ∃ v, (pathM n fi)[j]? = some v := ⟨_, List.getElem?_eq_getElem hjl⟩
        obtain ⟨f, hmr, hfb⟩ := hmf
        obtain ⟨z, hz, z1, z2⟩ := MF.get hfb v
        repeat' (first | refine rn ?_ | (refine zb ?_; intro _ _) | (refine za ?_; intro _ _) | (refine zs ?_; intro _ _))
        refine TL_index j rfl rfl rfl (fun w h => hrow.sl h (fun p hp => by repeat (first | exact List.mem_append_left _ hp | apply List.mem_append_right | apply List.mem_cons_of_mem))) rfl hjl (Nat.le_refl _) ?_
        refine TL_load_el1 (u := v) rfl rfl (fun w h => hrow.sl h (fun p hp => by repeat (first | exact List.mem_append_left _ hp | apply List.mem_append_right | apply List.mem_cons_of_mem))) hv rfl ?_
        repeat' (first | refine rn ?_ | (refine zb ?_; intro _ _) | (refine za ?_; intro _ _) | (refine zs ?_; intro _ _))
        refine TL_lookup (f := f) (z := .int .i64 0) (v := .int .i64 z) rfl rfl rfl (by repeat (first | exact List.Mem.head _ | apply List.mem_append_right | apply List.mem_cons_of_mem)) hmr zero3 hz ?_
        repeat' (first | refine rn ?_ | (refine zb ?_; intro _ _) | (refine za ?_; intro _ _) | (refine zs ?_; intro _ _))
        refine TL_load_el1 (i := 0) (o := 2) rfl rfl (fun w h => sN h (by simp only [List.mem_append, List.mem_cons, hb2, true_or, or_true])) rfl rfl ?_
        repeat' (first | refine rn ?_ | (refine zb ?_; intro _ _) | (refine za ?_; intro _ _) | (refine zs ?_; intro _ _))
        refine TC_cond_dec rfl (fun g3 => ?_) (fun g3 => ?_)
        · repeat' (first | refine rn ?_ | (refine zb ?_; intro _ _) | (refine za ?_; intro _ _) | (refine zs ?_; intro _ _))
          refine TL_append (l := dl) (l2 := [v]) (enc := encI) (G := _) rfl (by rfl) rfl rfl rfl rfl rfl hrow2 (pm_cons pm_here) (fun w h => Sl.of_blk h (List.Mem.head _) (fun _ _ => rfl) ⟨[], by rfl⟩) (fun u _ => rfl) (by simp only [List.length_singleton]; omega) (by simp only [List.length_singleton, maxLen]; omega) (fun so' sc' ob' hrow' => ?_)
          repeat' (first | refine rn ?_ | (refine zb ?_; intro _ _) | (refine za ?_; intro _ _) | (refine zs ?_; intro _ _))
          refine TL_mapSet (.inl rfl) rfl rfl rfl (fun _ _ => up) hmr (fun es2 clk2 hmr2 => ?_)
          repeat' (first | refine rn ?_ | (refine zb ?_; intro _ _) | (refine za ?_; intro _ _) | (refine zs ?_; intro _ _))
          refine TQ_round (j + 1, es2, clk2, so', sc', ob', dl ++ [v]) ⟨by dsimp only; omega, MF.upd hfb (by dsimp only; omega) (by dsimp only; omega) hmr2, by simp only [List.length_append, List.length_singleton]; omega, hrow'⟩ (by dsimp only; omega) sb (fun w h => h.sub (List.Sublist.append (List.Sublist.refl _) (List.Sublist.cons _ (List.Sublist.refl _))))
        · repeat' (first | refine rn ?_ | (refine zb ?_; intro _ _) | (refine za ?_; intro _ _) | (refine zs ?_; intro _ _))
          refine TL_mapSet (.inl rfl) rfl rfl rfl (fun _ _ => up) hmr (fun es2 clk2 hmr2 => ?_)
          repeat' (first | refine rn ?_ | (refine zb ?_; intro _ _) | (refine za ?_; intro _ _) | (refine zs ?_; intro _ _))
          refine TQ_round (j + 1, es2, clk2, so2, sc2, ob2, dl) ⟨by dsimp only; omega, MF.upd hfb (by dsimp only; omega) (by dsimp only; omega) hmr2, by dsimp only; omega, hrow2⟩ (by dsimp only; omega) sb (fun w h => h)
      · repeat' (first | refine rn ?_ | (refine zb ?_; intro _ _) | (refine za ?_; intro _ _) | (refine zs ?_; intro _ _))
        refine TL_yieldY (G := ob2 ++ (ob ++ ((b9, .cells (encUs ⟨(fi : Int), ut⟩) 73) :: (b4, .cells [.map (some bm)] 228) :: (bm, .obj (.map es clk)) :: marksH ds))) rfl rfl rfl hY k x hlt hpx ⟨⟨(fi : Int), ut⟩, dl, so2, sc2, ob2, hu, rfl, by omega, hrow2, fun p hp => List.mem_append_left _ hp⟩ (List.perm_append_comm.trans (List.Perm.of_eq (by simp))) (fun y hy => ?_)
        repeat' (first | refine rn ?_ | (refine zb ?_; intro _ _) | (refine za ?_; intro _ _) | (refine zs ?_; intro _ _))
        refine TQ_round (k + 1, y, es, clk) ⟨by dsimp only; omega, hy, hmf⟩ (by dsimp only; omega) sb (fun w h => ?_)
        have h2 := h.perm (List.perm_append_comm (l₂ := Y (k + 1) y))
        rw [List.append_assoc, List.append_assoc, List.cons_append, List.cons_append, List.cons_append] at h2
        exact h2.sub (((List.Sublist.cons _ (List.Sublist.refl _)).trans (List.sublist_append_right ob _)).trans (List.sublist_append_right ob2 _))
    · have hkl : k = l.length := by omega
      subst hkl
      repeat' (first | refine rn ?_ | (refine zb ?_; intro _ _) | (refine za ?_; intro _ _) | (refine zs ?_; intro _ _))
      exact TQ_leaveMn (ds := ds) (rs := []) (vs := []) (H' := Y l.length x) (.inr rfl) (fun w h => h.sub su) Tryz.results134 trivial (fun w' hs => ⟨x, hpx, rfl, hs⟩)
theorem c100 (n : Nt) (l : List Us) (ao : Option Addr) (c : Nat) (w : World) :
    Calls Tryz.prog 100 #[.agg (encNt n).toArray, .slice ao l.length c] w (RetP w.heap.size w (fun q : Nat × Nat => .func (.func 134) #[] #[.pointer (some ⟨q.2, 0, none⟩), .pointer (some ⟨q.1, 0, none⟩)]) (fun q => [(q.2, .cells [.slice ao l.length c] 74), (q.1, .cells (encNt n) 128)]) (fun _ => True)) := by
  refine enter (args := [.agg (encNt n).toArray, .slice ao l.length c]) Tryz.func100 rfl Tryz.ntmps100 rfl (SH.refl _) ?_
  repeat' (first | refine rn ?_ | (refine zb ?_; intro _ _) | (refine za ?_; intro _ _) | (refine zs ?_; intro _ _))
  rename_i b2 _ b3 _
  exact TQ_ret1 Tryz.results100 (RV.tmp rfl) (fun w' hs => ⟨(b2, b3), trivial, rfl, hs⟩)
end Go.Proofs.YtkpkebpofpcmaaaGreatDoor
