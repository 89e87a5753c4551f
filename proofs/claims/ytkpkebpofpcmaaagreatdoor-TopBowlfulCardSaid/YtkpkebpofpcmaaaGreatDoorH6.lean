/- Walks of the package hour: whether changes are valid. -/
import Derived.Test.YtkpkebpofpcmaaaGreatDoorH5
namespace Go.Proofs.YtkpkebpofpcmaaaGreatDoor
open Go Go.Eng Go.RowKit Go.Proofs
set_option maxHeartbeats 2000000
set_option maxRecDepth 10000
attribute [local irreducible] TL TC TQ

structure CgAt (w : World) (ao : Option Addr) (l : List Cg) : Prop where
  s : Sl w 3 encCg ao l
  t : ∀ c ∈ l, Sl w 5 encTg c.ao c.told
theorem CgAt.mono {w w' : World} {ao : Option Addr} {l : List Cg} (h : CgAt w ao l) (hb : Below w.heap.size w w') : CgAt w' ao l := ⟨h.s.mono hb, fun c hc => (h.t c hc).mono hb⟩
def okCg (k : Kp) (i : Nat) (c : Cg) : Prop := toldOk k c.told = true ∧ c.told.length ≤ 10 ∧ In c.bowls 0 200 ∧ (i = 0 → c.bowls ≤ 0 ∧ c.full = true)
def vvW (k : Kp) (c : Cg) : Sp := comW (ofW (-10000000, 10000000)) (toldM k c.told)
def okCgs (k : Kp) (l : List Cg) : Prop := ∀ (i : Nat) c, l[i]? = some c → okCg k i c
theorem c35 (k : Kp) (l : List Cg) (ao : Option Addr) (cc : Nat) (hn : l.length ≤ 1000000) (ht : ∀ c ∈ l, c.told.length ≤ 1000000) (w : World) (hl : CgAt w ao l) (hk : CkAt w k.1) (hv : Nv w) : Calls Tryz.prog 35 #[.agg (encKp k).toArray, .slice ao l.length cc] w
    (RetP w.heap.size w (fun q : Bool × Option Addr × Nat × Hp × Int × List Sp => .tuple #[.slice q.2.1 q.2.2.2.2.2.length q.2.2.1, .int .i64 q.2.2.2.2.1, .bool q.1]) (fun q => q.2.2.2.1) (fun q => Row 106 2 encSp q.2.1 q.2.2.1 q.2.2.2.1 q.2.2.2.2.2 ∧ (q.1 = true → okCgs k l ∧ q.2.2.2.2.2 = l.map (vvW k)) ∧ (okCgs k l → q.1 = true))) := by
  refine enter (args := [.agg (encKp k).toArray, .slice ao l.length cc]) Tryz.func35 rfl Tryz.ntmps35 rfl (SH.refl _) ?_
  repeat' (first | refine rn ?_ | (apply TL_box; exact rfl; exact rfl; exact rfl; intro _ _) | (apply TL_alloc; exact rfl; intro _ _) | (apply TL_buildSlice; exact rfl; exact rfl; exact rfl; exact rfl; exact rfl; intro _ _))
  rename_i b2 _
  refine TC_loop (σ := Nat × Option Addr × Nat × Hp) (fun q => q.1 ≤ l.length ∧ Row 106 2 encSp q.2.1 q.2.2.1 q.2.2.2 ((l.take q.1).map (vvW k)) ∧ ∀ (i : Nat) c, i < q.1 → l[i]? = some c → okCg k i c) (fun q => [(2, .pointer (some ⟨b2, 0, none⟩)), (7, .slice q.2.1 q.1 q.2.2.1), (12, .slice ao l.length cc), (13, .int .i64 l.length), (14, .int .i64 q.1)]) (fun q => q.2.2.2 ++ [(b2, .cells (encKp k) 96)]) (fun q => l.length - q.1) (0, none, 0, []) ⟨Nat.zero_le _, Row.nil _ _ _, fun i c h => by omega⟩ sb (fun w h => h) (fun q hq => ?_)
  obtain ⟨i, so, sc, ob⟩ := q
  obtain ⟨hi, hrow, hok⟩ := hq
  dsimp only at hi hrow hok ⊢
  have hlen : ((l.take i).map (vvW k)).length = i := by rw [List.length_map, List.length_take]; omega
  repeat' (first | refine rn ?_ | (apply TL_box; exact rfl; exact rfl; exact rfl; intro _ _) | (apply TL_alloc; exact rfl; intro _ _) | (apply TL_buildSlice; exact rfl; exact rfl; exact rfl; exact rfl; exact rfl; intro _ _))
  refine TC_cond_dec rfl (fun h1 => ?_) (fun h1 => ?_)
  · have hlt : i < l.length := by omega
    obtain ⟨x, hx⟩ : ∃ x, l[i]? = some x := ⟨_, List.getElem?_eq_getElem hlt⟩
    have hxm := List.mem_of_getElem? hx
    have htl := ht x hxm
    have htake : l.take (i + 1) = l.take i ++ [x] := by rw [List.take_add_one, hx]; rfl
    have hbad : ¬ okCg k i x → ¬ okCgs k l := fun h g => h (g i x hx)
    repeat' (first | refine rn ?_ | (apply TL_box; exact rfl; exact rfl; exact rfl; intro _ _) | (apply TL_alloc; exact rfl; intro _ _) | (apply TL_buildSlice; exact rfl; exact rfl; exact rfl; exact rfl; exact rfl; intro _ _))
    refine TL_index i rfl rfl rfl (fun w h => h.sl hl.s) rfl hlt (Nat.le_refl _) ?_
    refine TL_load_eln (u := x) rfl rfl (fun w h => h.sl hl.s) hx rfl ?_
    repeat' (first | refine rn ?_ | (apply TL_box; exact rfl; exact rfl; exact rfl; intro _ _) | (apply TL_alloc; exact rfl; intro _ _) | (apply TL_buildSlice; exact rfl; exact rfl; exact rfl; exact rfl; exact rfl; intro _ _))
    rename_i b9 _
    refine TL_callN rfl rfl rfl (fun w h => c80 k x.told x.ao x.cap htl w (h.sl (hl.t x hxm)) (hk.mono h.below) (hv.mono h.below)) ?_
    rintro ⟨to_, tc, oh⟩ hrt
    dsimp only at hrt ⊢
    cases hr : toldOk k x.told with
    | false =>
      repeat' (first | refine rn ?_ | (apply TL_box; exact rfl; exact rfl; exact rfl; intro _ _) | (apply TL_alloc; exact rfl; intro _ _) | (apply TL_buildSlice; exact rfl; exact rfl; exact rfl; exact rfl; exact rfl; intro _ _))
      exact TQ_ret3 Tryz.results35 (RV.tmp rfl) (RV.tmp rfl) (RV.tmp rfl) (fun w' hs => ⟨(false, none, 0, [], (i : Int), []), ⟨Row.nil _ _ _, fun h => by (cases h), fun h => absurd h (hbad fun g => by have := g.1; rw [hr] at this; cases this)⟩, rfl, hs.sub (List.nil_sublist _)⟩)
    | true =>
      have e1 : toldL k x.told = toldM k x.told := by unfold toldL; rw [if_pos hr]
      rw [e1] at hrt ⊢
      have e2 : (toldM k x.told).length = x.told.length := by unfold toldM; rw [List.length_map]
      repeat' (first | refine rn ?_ | (apply TL_box; exact rfl; exact rfl; exact rfl; intro _ _) | (apply TL_alloc; exact rfl; intro _ _) | (apply TL_buildSlice; exact rfl; exact rfl; exact rfl; exact rfl; exact rfl; intro _ _))
      refine TL_gsplit_dec rfl rfl (fun g1 => ?_) (fun g1 => ?_)
      · repeat' (first | refine rn ?_ | (apply TL_box; exact rfl; exact rfl; exact rfl; intro _ _) | (apply TL_alloc; exact rfl; intro _ _) | (apply TL_buildSlice; exact rfl; exact rfl; exact rfl; exact rfl; exact rfl; intro _ _))
        exact TQ_ret3 Tryz.results35 (RV.tmp rfl) (RV.tmp rfl) (RV.tmp rfl) (fun w' hs => ⟨(false, none, 0, [], (i : Int), []), ⟨Row.nil _ _ _, fun h => by (cases h), fun h => absurd h (hbad fun g => by have := g.2.1; omega)⟩, rfl, hs.sub (List.nil_sublist _)⟩)
      repeat' (first | refine rn ?_ | (apply TL_box; exact rfl; exact rfl; exact rfl; intro _ _) | (apply TL_alloc; exact rfl; intro _ _) | (apply TL_buildSlice; exact rfl; exact rfl; exact rfl; exact rfl; exact rfl; intro _ _))
      refine TL_callV rfl rfl rfl (fun w h => c67 0 200 [x.bowls] _ 1 (by simp [Small]) w (Sl.of_blk h mm (fun y _ => rfl) ⟨[], rfl⟩)) ?_
      repeat' (first | refine rn ?_ | (apply TL_box; exact rfl; exact rfl; exact rfl; intro _ _) | (apply TL_alloc; exact rfl; intro _ _) | (apply TL_buildSlice; exact rfl; exact rfl; exact rfl; exact rfl; exact rfl; intro _ _))
      refine TL_gsplit_dec rfl rfl (fun g2 => ?_) (fun g2 => ?_)
      · repeat' (first | refine rn ?_ | (apply TL_box; exact rfl; exact rfl; exact rfl; intro _ _) | (apply TL_alloc; exact rfl; intro _ _) | (apply TL_buildSlice; exact rfl; exact rfl; exact rfl; exact rfl; exact rfl; intro _ _))
        exact TQ_ret3 Tryz.results35 (RV.tmp rfl) (RV.tmp rfl) (RV.tmp rfl) (fun w' hs => ⟨(false, none, 0, [], (i : Int), []), ⟨Row.nil _ _ _, fun h => by (cases h), fun h => absurd h (hbad fun g => g2 (by simpa using g.2.2.1))⟩, rfl, hs.sub (List.nil_sublist _)⟩)
      have g2' : In x.bowls 0 200 := by simpa using g2
      repeat' (first | refine rn ?_ | (apply TL_box; exact rfl; exact rfl; exact rfl; intro _ _) | (apply TL_alloc; exact rfl; intro _ _) | (apply TL_buildSlice; exact rfl; exact rfl; exact rfl; exact rfl; exact rfl; intro _ _))
      refine TL_gsplit_dec rfl rfl (fun g3 => ?_) (fun g3 => ?_)
      · repeat' (first | refine rn ?_ | (apply TL_box; exact rfl; exact rfl; exact rfl; intro _ _) | (apply TL_alloc; exact rfl; intro _ _) | (apply TL_buildSlice; exact rfl; exact rfl; exact rfl; exact rfl; exact rfl; intro _ _))
        refine TL_gsplit_dec rfl rfl (fun g4 => ?_) (fun g4 => ?_)
        · repeat' (first | refine rn ?_ | (apply TL_box; exact rfl; exact rfl; exact rfl; intro _ _) | (apply TL_alloc; exact rfl; intro _ _) | (apply TL_buildSlice; exact rfl; exact rfl; exact rfl; exact rfl; exact rfl; intro _ _))
          exact TQ_ret3 Tryz.results35 (RV.tmp rfl) (RV.tmp rfl) (RV.tmp rfl) (fun w' hs => ⟨(false, none, 0, [], (i : Int), []), ⟨Row.nil _ _ _, fun h => by (cases h), fun h => absurd h (hbad fun g => by have := (g.2.2.2 (by omega)).1; omega)⟩, rfl, hs.sub (List.nil_sublist _)⟩)
        · cases hf : x.full with
          | false =>
            have hrf : ¬ okCg k i x := fun g => by have := (g.2.2.2 (by omega)).2; rw [hf] at this; cases this
            repeat' (first | refine rn ?_ | (apply TL_box; exact rfl; exact rfl; exact rfl; intro _ _) | (apply TL_alloc; exact rfl; intro _ _) | (apply TL_buildSlice; exact rfl; exact rfl; exact rfl; exact rfl; exact rfl; intro _ _))
            exact TQ_ret3 Tryz.results35 (RV.tmp rfl) (RV.tmp rfl) (RV.tmp rfl) (fun w' hs => ⟨(false, none, 0, [], (i : Int), []), ⟨Row.nil _ _ _, fun h => by (cases h), fun h => absurd h (hbad fun g => hrf g)⟩, rfl, hs.sub (List.nil_sublist _)⟩)
          | true =>
            repeat' (first | refine rn ?_ | (apply TL_box; exact rfl; exact rfl; exact rfl; intro _ _) | (apply TL_alloc; exact rfl; intro _ _) | (apply TL_buildSlice; exact rfl; exact rfl; exact rfl; exact rfl; exact rfl; intro _ _))
            refine TL_callV rfl rfl rfl (fun w h => c81 (-10000000, 10000000) w) ?_
            repeat' (first | refine rn ?_ | (apply TL_box; exact rfl; exact rfl; exact rfl; intro _ _) | (apply TL_alloc; exact rfl; intro _ _) | (apply TL_buildSlice; exact rfl; exact rfl; exact rfl; exact rfl; exact rfl; intro _ _))
            refine TL_callV rfl rfl rfl (fun w h => c38 (ofW (-10000000, 10000000)) (toldM k x.told) to_ tc (by unfold Small; omega) w (hrt.sl h (fun x hx => by simp only [List.mem_append, List.mem_cons, hx, true_or, or_true])) (hv.mono h.below)) ?_
            repeat' (first | refine rn ?_ | (apply TL_box; exact rfl; exact rfl; exact rfl; intro _ _) | (apply TL_alloc; exact rfl; intro _ _) | (apply TL_buildSlice; exact rfl; exact rfl; exact rfl; exact rfl; exact rfl; intro _ _))
            refine TL_append (l := (l.take i).map (vvW k)) (l2 := [vvW k x]) (enc := encSp) (G := _) rfl (by rfl) rfl rfl hlen.symm rfl rfl hrow (pm_cons (pm_cons (pmA (pm_cons pm_here)))) (fun w h => Sl.of_blk h mm (fun _ _ => rfl) ⟨[], by rfl⟩) (fun u _ => rfl) (by simp only [List.length_singleton]; omega) (by simp only [List.length_singleton, maxLen]; omega) (fun so' sc' ob' hrow' => ?_)
            have e4 : (l.take i).map (vvW k) ++ [vvW k x] = (l.take (i + 1)).map (vvW k) := by rw [htake, List.map_append]; rfl
            have hlen2 : ((l.take (i + 1)).map (vvW k)).length = i + 1 := by rw [← e4, List.length_append, hlen]; rfl
            rw [e4] at hrow' ⊢
            rw [hlen2]
            repeat' (first | refine rn ?_ | (apply TL_box; exact rfl; exact rfl; exact rfl; intro _ _) | (apply TL_alloc; exact rfl; intro _ _) | (apply TL_buildSlice; exact rfl; exact rfl; exact rfl; exact rfl; exact rfl; intro _ _))
            refine TQ_round (i + 1, so', sc', ob') ⟨hlt, hrow', fun j c hj hc => ?_⟩ (by dsimp only; omega) sb (fun w h => ?_)
            · rcases Nat.lt_or_ge j i with h | h
              · exact hok j c h hc
              · have : j = i := by omega
                subst this; rw [hx] at hc; cases hc
                exact ⟨hr, by omega, g2', fun h0 => ⟨by omega, hf⟩⟩
            · exact h.sub su

      · repeat' (first | refine rn ?_ | (apply TL_box; exact rfl; exact rfl; exact rfl; intro _ _) | (apply TL_alloc; exact rfl; intro _ _) | (apply TL_buildSlice; exact rfl; exact rfl; exact rfl; exact rfl; exact rfl; intro _ _))
        refine TL_callV rfl rfl rfl (fun w h => c81 (-10000000, 10000000) w) ?_
        repeat' (first | refine rn ?_ | (apply TL_box; exact rfl; exact rfl; exact rfl; intro _ _) | (apply TL_alloc; exact rfl; intro _ _) | (apply TL_buildSlice; exact rfl; exact rfl; exact rfl; exact rfl; exact rfl; intro _ _))
        refine TL_callV rfl rfl rfl (fun w h => c38 (ofW (-10000000, 10000000)) (toldM k x.told) to_ tc (by unfold Small; omega) w (hrt.sl h (fun x hx => by simp only [List.mem_append, List.mem_cons, hx, true_or, or_true])) (hv.mono h.below)) ?_
        repeat' (first | refine rn ?_ | (apply TL_box; exact rfl; exact rfl; exact rfl; intro _ _) | (apply TL_alloc; exact rfl; intro _ _) | (apply TL_buildSlice; exact rfl; exact rfl; exact rfl; exact rfl; exact rfl; intro _ _))
        refine TL_append (l := (l.take i).map (vvW k)) (l2 := [vvW k x]) (enc := encSp) (G := _) rfl (by rfl) rfl rfl hlen.symm rfl rfl hrow (pm_cons (pm_cons (pmA (pm_cons pm_here)))) (fun w h => Sl.of_blk h mm (fun _ _ => rfl) ⟨[], by rfl⟩) (fun u _ => rfl) (by simp only [List.length_singleton]; omega) (by simp only [List.length_singleton, maxLen]; omega) (fun so' sc' ob' hrow' => ?_)
        have e4 : (l.take i).map (vvW k) ++ [vvW k x] = (l.take (i + 1)).map (vvW k) := by rw [htake, List.map_append]; rfl
        have hlen2 : ((l.take (i + 1)).map (vvW k)).length = i + 1 := by rw [← e4, List.length_append, hlen]; rfl
        rw [e4] at hrow' ⊢
        rw [hlen2]
        repeat' (first | refine rn ?_ | (apply TL_box; exact rfl; exact rfl; exact rfl; intro _ _) | (apply TL_alloc; exact rfl; intro _ _) | (apply TL_buildSlice; exact rfl; exact rfl; exact rfl; exact rfl; exact rfl; intro _ _))
        refine TQ_round (i + 1, so', sc', ob') ⟨hlt, hrow', fun j c hj hc => ?_⟩ (by dsimp only; omega) sb (fun w h => ?_)
        · rcases Nat.lt_or_ge j i with h | h
          · exact hok j c h hc
          · have : j = i := by omega
            subst this; rw [hx] at hc; cases hc
            exact ⟨hr, by omega, g2', fun h0 => by omega⟩
        · exact h.sub su
  · have e : l.take i = l := by rw [List.take_of_length_le]; omega
    have e2 : i = l.length := by omega
    rw [e] at hrow hlen
    repeat' (first | refine rn ?_ | (apply TL_box; exact rfl; exact rfl; exact rfl; intro _ _) | (apply TL_alloc; exact rfl; intro _ _) | (apply TL_buildSlice; exact rfl; exact rfl; exact rfl; exact rfl; exact rfl; intro _ _))
    rw [← hlen]
    refine TQ_ret3 Tryz.results35 (RV.tmp rfl) (RV.tmp rfl) (RV.tmp rfl) (fun w' hs => ⟨(true, so, sc, ob, 0, l.map (vvW k)), ⟨hrow, fun _ => ⟨fun j c hc => hok j c (by have := (List.getElem?_eq_some_iff.1 hc).1; omega) hc, rfl⟩, fun _ => rfl⟩, rfl, hs.sub (List.sublist_append_left _ _)⟩)
end Go.Proofs.YtkpkebpofpcmaaaGreatDoor
