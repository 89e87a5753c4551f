/- Walks of the package deed: open, try. -/
import Derived.Test.YtkpkebpofpcmaaaGreatDoorD10
namespace Go.Eng
open Go Go.RowKit
section
variable {P : Program} {N : Nat} {D : List Deferred} {B : Nat} {w0 : World} {L : Env} {H : Hp}
/-- A function with one deferred call and one result leaves: by its end, or by a panic. -/
theorem TQ_leave1 {fn : Func} {R : Ending → World → Prop} {k : FuncId} {cl : List Value} {u : FrameMode} {e : Exit} {H' : Hp} {r1 : ResultVar} {v1 : Value} [hent : EntP P k]
    (hu : (u = .returning ∧ (e = .ret ∨ e = .normal)) ∨ ∃ c, u = .panicking c ∧ e = .panic c)
    (hc : ∀ w, SH B w0 w H → CallsDIn (FW none) 0 P k cl.toArray u w (fun e u' w' => (∃ v, e = .returned v) ∧ settle u' = .returning ∧ SH B w0 w' H'))
    (hr : fn.results = #[r1]) (h1 : RV P B w0 L H' r1 v1) (hR : ∀ w, SH B w0 w H' → R (.returned v1) w) :
    TQ (bodyPostDIn (FW none) 0 P fn R) N [dfr k cl] B w0 L H e := fun a w hf hs => by
  have key : u ≠ .run → LeavesIn (FW none) 0 P fn a.tmps R [dfr k cl] u w := fun hne => by
    refine leavesIn_cons (f := k) (args := cl.toArray) hne (fun h => by simp [FW] at h) (by simpa [invoke] using hent.run cl.toArray w) (fun _ _ => trivial) ?_
    refine (hc w hs).mono ?_
    rintro e' u' w' ⟨⟨v, rfl⟩, hset, hs'⟩
    show LeavesIn (FW none) 0 P fn a.tmps R [] (settle u') w'
    rw [hset]
    have e1 := h1 a w' _ _ hf hs'
    exact ⟨_, by simp [results_eq, hr, e1], hR w' hs'⟩
  rcases hu with ⟨rfl, rfl | rfl⟩ | ⟨c, rfl, rfl⟩
  · show LeavesIn _ _ _ _ _ _ a.defers _ _
    rw [hf.defers]; exact key (by simp)
  · show LeavesIn _ _ _ _ _ _ a.defers _ _
    rw [hf.defers]; exact key (by simp)
  · show LeavesIn _ _ _ _ _ _ a.defers _ _
    rw [hf.defers]; exact key (by simp)
end
end Go.Eng
namespace Go.Proofs.YtkpkebpofpcmaaaGreatDoor
open Go Go.Eng Go.RowKit Go.Proofs
set_option maxHeartbeats 4000000
set_option maxRecDepth 10000
attribute [local irreducible] TL TC TQ

theorem c128_ret {B : Nat} {w0 : World} {H : Hp} (p4 : Value) (w : World) (hs : SH B w0 w H) :
    CallsDIn (FW none) 0 Tryz.prog 128 #[p4] .returning w (fun e u' w' => (∃ v, e = .returned v) ∧ settle u' = .returning ∧ SH B w0 w' H) := by
  refine enterRec (args := [p4]) (v := .nilIface) (u' := .returning) Tryz.func128 rfl Tryz.ntmps128 rfl rfl rfl (.inl ⟨rfl, rfl, rfl⟩) hs ?_
  repeat' (first | refine rn ?_ | (refine zb ?_; intro _ _) | (refine za ?_; intro _ _) | (refine zs ?_; intro _ _))
  refine TL_neq_nilnil rfl Tryz.underlying20 rfl ?_
  repeat' (first | refine rn ?_ | (refine zb ?_; intro _ _) | (refine za ?_; intro _ _) | (refine zs ?_; intro _ _))
  exact TQ_end0 Tryz.results128 (fun w' hs => ⟨⟨_, rfl⟩, rfl, hs⟩)
theorem c128_stop {B : Nat} {w0 : World} {G : Hp} (b4 : Nat) (n m : Int) (w : World) (hs : SH B w0 w ((b4, .cells [.int .u8 m] 5) :: G)) :
    CallsDIn (FW none) 0 Tryz.prog 128 #[.pointer (some ⟨b4, 0, none⟩)] (.panicking [{ v := voidV n, recovered := false }]) w
      (fun e' u' w' => (∃ v, e' = .returned v) ∧ settle u' = .returning ∧ SH B w0 w' ((b4, .cells [.int .u8 n] 5) :: G)) := by
  refine enterRec (args := [.pointer (some ⟨b4, 0, none⟩)]) (v := voidV n) (u' := .panicking [{ v := voidV n, recovered := true }]) Tryz.func128 rfl Tryz.ntmps128 rfl rfl rfl (.inr ⟨rfl, rfl⟩) hs ?_
  repeat' (first | refine rn ?_ | (refine zb ?_; intro _ _) | (refine za ?_; intro _ _) | (refine zs ?_; intro _ _))
  refine TL_neq_held rfl Tryz.underlying20 rfl ?_
  repeat' (first | refine rn ?_ | (refine zb ?_; intro _ _) | (refine za ?_; intro _ _) | (refine zs ?_; intro _ _))
  refine TL_typeAssert_i rfl rfl ?_
  repeat' (first | refine rn ?_ | (refine zb ?_; intro _ _) | (refine za ?_; intro _ _) | (refine zs ?_; intro _ _))
  exact TQ_end0 Tryz.results128 (fun w' hs => ⟨⟨_, rfl⟩, rfl, hs⟩)
def toPc (h : Ho) : Pc := ⟨h.turn, h.who, 0, 0⟩
def pcsOf (r : Ro) : List Pc := r.holds.map toPc
theorem take_snoc {α : Type} {l : List α} {k : Nat} {x : α} (h : l[k]? = some x) : l.take (k + 1) = l.take k ++ [x] := by
  rw [List.take_add_one, h]; rfl
theorem c87 (r : Ro) (hn : r.holds.length ≤ 60) (w : World) (hh : Sl w 3 encHo r.ao r.holds) :
    Calls Tryz.prog 87 #[.agg (encRo r).toArray] w (RetP w.heap.size w (fun q : Nat × Nat × Lc => .pointer (some ⟨q.1, 0, none⟩)) (fun q => bkH r q.1 q.2.1 q.2.2 (pcsOf r).length []) (fun q => BkOk q.2.2 (pcsOf r) (fun _ => false))) := by
  have hpl : (pcsOf r).length = r.holds.length := by unfold pcsOf; rw [List.length_map]
  refine enter (args := [.agg (encRo r).toArray]) Tryz.func87 rfl Tryz.ntmps87 rfl (SH.refl _) ?_
  repeat' (first | refine rn ?_ | (refine zb ?_; intro _ _) | (refine za ?_; intro _ _) | (refine zs ?_; intro _ _))
  rename_i b1 _
  refine TL_makeMap rfl (fun bm _ => ?_)
  repeat' (first | refine rn ?_ | (refine zb ?_; intro _ _) | (refine za ?_; intro _ _) | (refine zs ?_; intro _ _))
  rename_i b _
  refine TC_loop (σ := Nat × Lc) (fun q => q.1 ≤ r.holds.length ∧ q.2.es = #[] ∧ Row 116 5 encPc q.2.ao q.2.cap q.2.ob ((pcsOf r).take q.1)) (fun q => [(1, .pointer (some ⟨b1, 0, none⟩)), (3, .pointer (some ⟨b, 0, none⟩)), (11, .slice r.ao r.holds.length r.cap), (12, .int .i64 r.holds.length), (13, .int .i64 q.1)]) (fun q => bkH r b bm q.2 q.1 [(b1, .cells (encRo r) 43)]) (fun q => r.holds.length - q.1) (0, ⟨none, 0, [], #[], 0⟩) ⟨Nat.zero_le _, rfl, Row.nil _ _ _⟩ sb (fun w h => h.perm (List.Perm.cons _ (List.Perm.refl _))) (fun q hq => ?_)
  obtain ⟨k, x⟩ := q
  obtain ⟨hk, hes, hr⟩ := hq
  dsimp only at hk hes hr ⊢
  repeat' (first | refine rn ?_ | (refine zb ?_; intro _ _) | (refine za ?_; intro _ _) | (refine zs ?_; intro _ _))
  refine TC_cond_dec rfl (fun g1 => ?_) (fun g1 => ?_)
  · have hlt : k < r.holds.length := by omega
    obtain ⟨ho, hx⟩ : ∃ h, r.holds[k]? = some h := ⟨_, List.getElem?_eq_getElem hlt⟩
    have hlen : ((pcsOf r).take k).length = k := by rw [List.length_take]; omega
    have hsn : (pcsOf r).take (k + 1) = (pcsOf r).take k ++ [toPc ho] := take_snoc (by unfold pcsOf; rw [List.getElem?_map, hx]; rfl)
    have hlen1 : ((pcsOf r).take k ++ [toPc ho]).length = k + 1 := by simp [hlen]
    repeat' (first | refine rn ?_ | (refine zb ?_; intro _ _) | (refine za ?_; intro _ _) | (refine zs ?_; intro _ _))
    refine TL_index k rfl rfl rfl (fun w h => h.sl hh) rfl hlt (Nat.le_refl _) ?_
    refine TL_load_eln (u := ho) rfl rfl (fun w h => h.sl hh) hx rfl ?_
    repeat' (first | refine rn ?_ | (refine zb ?_; intro _ _) | (refine za ?_; intro _ _) | (refine zs ?_; intro _ _))
    rename_i b5 _
    apply TC_draw6 12 11 [] (x.ob) ((b5, .cells (encHo ho) 40) :: (b, .cells (bkC r bm x k) 119) :: (bm, .obj (.map x.es x.clk)) :: [(b1, .cells (encRo r) 43)]) (pm_cons (pm_cons (pm_cons pm_here))); kernel_rfl; exact rfl; exact Tryz.mixed; exact rfl
    · iterate 2 (refine' pv6 ?_; rotate_left)
      (refine' PG6.val rfl rfl rfl (by intro _X; refine TL_nilCheck rfl rfl ?_; exact qe) ?_; rotate_left)
      iterate 7 (refine' pv6 ?_; rotate_left)
      (refine' PG6.rel ((fun v h => ∃ b, v = .slice (some ⟨b, 0, none⟩) 1 1 ∧ h = [(b, .cells (encPc (toPc ho)) 116)])) rfl rfl rfl (by intro _X; apply TL_buildSlice; exact rfl; exact rfl; exact rfl; exact rfl; exact rfl; intro b _; exact TL_nil (TQ_QR (h := [(b, _)]) rfl ⟨b, rfl, rfl⟩ (fun _ h => h))) ?_; rotate_left)
      (refine' PG6.big (fun v h' => ∃ y : Option Addr × Nat × Hp, v = .slice y.1 (k + 1) y.2.1 ∧ h' = y.2.2 ∧ Row 116 5 encPc y.1 y.2.1 y.2.2 ((pcsOf r).take (k + 1))) rfl rfl rfl (by rintro _ _ ⟨vb, rfl, rfl⟩ _X; refine TL_append (l := (pcsOf r).take k) (l2 := [toPc ho]) (enc := encPc) (G := _) rfl (by rfl) rfl rfl hlen.symm rfl rfl hr pm_ins (fun w h => Sl.of_blk h (List.Mem.head _) (fun _ _ => rfl) ⟨[], by rfl⟩) (fun u _ => rfl) (by simp only [List.length_singleton]; omega) (by simp only [List.length_singleton, maxLen]; omega) (fun so' sc' ob' hrow' => ?_); exact TL_nil (TQ_QR (h := ob') (v := .slice so' ((pcsOf r).take k ++ [toPc ho]).length sc') rfl ⟨(so', sc', ob'), by rw [hlen1], rfl, by rw [hsn]; exact hrow'⟩ (fun _ h => h))) ?_; rotate_left)
      exact PG6.nil
    rintro _ _ ⟨y, rfl, rfl, hy⟩ _ _ ⟨vb, rfl, rfl⟩
    change TL _ _ _ _ _ _ _ _ _ _ _
    repeat' (first | refine rn ?_ | (refine zb ?_; intro _ _) | (refine za ?_; intro _ _) | (refine zs ?_; intro _ _) | (refine nk ?_))
    exact TQ_round (k + 1, { x with ao := y.1, cap := y.2.1, ob := y.2.2 }) ⟨by omega, hes, hy⟩ (by simp only; omega) sb (fun w h => (h.sub (H' := y.2.2 ++ (_ :: _ :: [(b1, Blk.cells (encRo r) 43)])) (List.Sublist.append (List.sublist_append_left _ _) (List.Sublist.cons _ (List.Sublist.refl _)))).perm pm_bk)
  · have hkl : k = r.holds.length := by omega
    subst hkl
    rw [← hpl, List.take_length] at hr
    rw [← hpl]
    repeat' (first | refine rn ?_ | (refine zb ?_; intro _ _) | (refine za ?_; intro _ _) | (refine zs ?_; intro _ _))
    exact TQ_ret1 Tryz.results87 (RV.tmp rfl) (fun w' hs => ⟨(b, bm, x), ⟨hr, by rw [hes]; exact MR.nil⟩, rfl, hs.sub (List.Sublist.cons_cons _ (List.Sublist.cons_cons _ (List.Sublist.append_left (List.nil_sublist _) _)))⟩)
end Go.Proofs.YtkpkebpofpcmaaaGreatDoor
/- Walks of the package deed: try. -/
namespace Go.Proofs.YtkpkebpofpcmaaaGreatDoor
open Go Go.Eng Go.RowKit Go.Proofs
set_option maxHeartbeats 4000000
set_option maxRecDepth 10000
attribute [local irreducible] TL TC TQ

theorem zero4 (w : World) : (zeroValue 4).run Tryz.prog w = .ok (.bool false) w := by
  obtain ⟨i, hi, hz⟩ := Option.map_eq_some_iff.1 (show (Tryz.prog.info? 4).map (fun i => i.zero) = some (some (Value.bool false)) by kernel_rfl)
  simp [zeroValue, typeInfo, hi, hz]
theorem dead_get (dead : Int → Bool) (k : Int) (p : Bool) (h : dead k = p) : (deadF dead k).getD (.bool false) = .bool p := by
  unfold deadF; rw [h]; cases p <;> rfl
theorem pm_in2 {c d a b : Nat × Blk} {ob R : Hp} : (a :: b :: (ob ++ c :: d :: R)).Perm (c :: d :: a :: b :: (ob ++ R)) := pm_in1.trans (List.Perm.cons c pm_in1)
abbrev BkS := Int × List Pc × (Int → Bool)
def tryM (dead : Int → Bool) (d : Dd) (pcs : List Pc) (res : BkS) : BkS := if dead d.fr || dead d.to then (1, pcs, dead) else res
theorem c88 {B : Nat} {w0 : World} {G : Hp} (r : Ro) (b bm : Nat) (x : Lc) (pcs : List Pc) (dead : Int → Bool) (d : Dd) (hok : BkOk x pcs dead) (k1 k2 k3 k4 : Bool) (f : FuncId) [EntP Tryz.prog f] (hk : kindsF d.kind = some (kdV k1 k2 k3 k4 f)) (res : BkS)
    (hdo : ∀ (a1 a2 : Nat × Blk) w, SH B w0 w (bkH r b bm x pcs.length (a1 :: a2 :: G)) → Calls Tryz.prog f #[.pointer (some ⟨b, 0, none⟩), .agg (encDd d).toArray] w (EndP B w0 (fun _ : Lc => whyE res.1) (fun y => bkH r b bm y res.2.1.length (a1 :: a2 :: G)) (fun y => BkOk y res.2.1 res.2.2)))
    (w : World) (hs : SH B w0 w (bkH r b bm x pcs.length G)) :
    Calls Tryz.prog 88 #[.pointer (some ⟨b, 0, none⟩), .agg (encDd d).toArray] w (RetP B w0 (fun _ : Lc => .int .u8 (tryM dead d pcs res).1) (fun y => bkH r b bm y (tryM dead d pcs res).2.1.length G) (fun y => BkOk y (tryM dead d pcs res).2.1 (tryM dead d pcs res).2.2)) := by
  refine enterD (args := [.pointer (some ⟨b, 0, none⟩), .agg (encDd d).toArray]) Tryz.func88 rfl Tryz.ntmps88 rfl hs ?_
  repeat' (first | refine rn ?_ | (refine zb ?_; intro _ _) | (refine za ?_; intro _ _) | (refine zs ?_; intro _ _))
  rename_i b3 _ b4 _
  refine TL_defer rfl ?_
  repeat' (first | refine rn ?_ | (refine zb ?_; intro _ _) | (refine za ?_; intro _ _) | (refine zs ?_; intro _ _))
  cases hd1 : dead d.fr with
  | true =>
    have et : tryM dead d pcs res = (1, pcs, dead) := by unfold tryM; rw [hd1]; rfl
    rw [et]
    apply TC_draw 18; kernel_rfl; exact Tryz.mixed
    · (refine' pv ?_; rotate_left)
      (refine' PG.val rfl rfl (by intro _X; refine TL_nilCheck rfl rfl ?_; exact qe) ?_; rotate_left)
      iterate 4 (refine' pv ?_; rotate_left)
      (refine' PG.val rfl rfl (by intro _X; refine TL_lookup (f := deadF dead) (z := .bool false) (v := .bool true) rfl rfl rfl mm hok.map zero4 (dead_get dead _ true hd1) ?_; exact qe) ?_; rotate_left)
      iterate 11 (refine' pv ?_; rotate_left)
      exact PG.nil
    change TL _ _ _ _ _ _ _ _ _ _ _
    refine TL_callE rfl rfl rfl (fun w h => c129 false 1 w) (fun v hv => (by cases hv)) (fun v hv => ?_)
    cases hv
    repeat (first | apply TQ_then_panic | apply TQ_block_panic)
    refine TQ_leave1 (H' := (b4, .cells [.int .u8 1] 5) :: (b3, .cells (encDd d) 50) :: bkH r b bm x pcs.length G) (.inr ⟨_, rfl, rfl⟩) (fun w hs => c128_stop b4 1 0 w hs) Tryz.results88 (RV.cell1 rfl (List.Mem.head _) (by rfl)) (fun w' hs => ⟨x, hok, rfl, hs.sub (List.Sublist.cons _ (List.Sublist.cons _ (List.Sublist.refl _)))⟩)
  | false =>
    cases hd2 : dead d.to with
    | true =>
      have et : tryM dead d pcs res = (1, pcs, dead) := by unfold tryM; rw [hd1, hd2]; rfl
      rw [et]
      apply TC_draw 18; kernel_rfl; exact Tryz.mixed
      · (refine' pv ?_; rotate_left)
        (refine' PG.val rfl rfl (by intro _X; refine TL_nilCheck rfl rfl ?_; exact qe) ?_; rotate_left)
        iterate 4 (refine' pv ?_; rotate_left)
        (refine' PG.val rfl rfl (by intro _X; refine TL_lookup (f := deadF dead) (z := .bool false) (v := .bool false) rfl rfl rfl mm hok.map zero4 (dead_get dead _ false hd1) ?_; exact qe) ?_; rotate_left)
        iterate 2 (refine' pv ?_; rotate_left)
        (refine' pg ?_; rotate_left)
        (refine' PG.val rfl rfl (by intro _X; (refine TL_guard_yes rfl rfl rfl ?_); refine TL_nilCheck rfl rfl ?_; exact qe) ?_; rotate_left)
        iterate 4 (refine' pg ?_; rotate_left)
        (refine' PG.val rfl rfl (by intro _X; (refine TL_guard_yes rfl rfl rfl ?_); refine TL_lookup (f := deadF dead) (z := .bool false) (v := .bool true) rfl rfl rfl mm hok.map zero4 (dead_get dead _ true hd2) ?_; exact qe) ?_; rotate_left)
        (refine' pg ?_; rotate_left)
        (refine' pv ?_; rotate_left)
        exact PG.nil
      change TL _ _ _ _ _ _ _ _ _ _ _
      refine TL_callE rfl rfl rfl (fun w h => c129 false 1 w) (fun v hv => (by cases hv)) (fun v hv => ?_)
      cases hv
      repeat (first | apply TQ_then_panic | apply TQ_block_panic)
      refine TQ_leave1 (H' := (b4, .cells [.int .u8 1] 5) :: (b3, .cells (encDd d) 50) :: bkH r b bm x pcs.length G) (.inr ⟨_, rfl, rfl⟩) (fun w hs => c128_stop b4 1 0 w hs) Tryz.results88 (RV.cell1 rfl (List.Mem.head _) (by rfl)) (fun w' hs => ⟨x, hok, rfl, hs.sub (List.Sublist.cons _ (List.Sublist.cons _ (List.Sublist.refl _)))⟩)
    | false =>
      have et : tryM dead d pcs res = res := by unfold tryM; rw [hd1, hd2]; rfl
      rw [et]
      apply TC_draw 18; kernel_rfl; exact Tryz.mixed
      · (refine' pv ?_; rotate_left)
        (refine' PG.val rfl rfl (by intro _X; refine TL_nilCheck rfl rfl ?_; exact qe) ?_; rotate_left)
        iterate 4 (refine' pv ?_; rotate_left)
        (refine' PG.val rfl rfl (by intro _X; refine TL_lookup (f := deadF dead) (z := .bool false) (v := .bool false) rfl rfl rfl mm hok.map zero4 (dead_get dead _ false hd1) ?_; exact qe) ?_; rotate_left)
        iterate 2 (refine' pv ?_; rotate_left)
        (refine' pg ?_; rotate_left)
        (refine' PG.val rfl rfl (by intro _X; (refine TL_guard_yes rfl rfl rfl ?_); refine TL_nilCheck rfl rfl ?_; exact qe) ?_; rotate_left)
        iterate 4 (refine' pg ?_; rotate_left)
        (refine' PG.val rfl rfl (by intro _X; (refine TL_guard_yes rfl rfl rfl ?_); refine TL_lookup (f := deadF dead) (z := .bool false) (v := .bool false) rfl rfl rfl mm hok.map zero4 (dead_get dead _ false hd2) ?_; exact qe) ?_; rotate_left)
        (refine' pg ?_; rotate_left)
        (refine' pv ?_; rotate_left)
        exact PG.nil
      change TL _ _ _ _ _ _ _ _ _ _ _
      refine TL_callE rfl rfl rfl (fun w h => c129 true 1 w) (fun v hv => ?_) (fun v hv => (by cases hv))
      repeat' (first | refine rn ?_ | (refine zb ?_; intro _ _) | (refine za ?_; intro _ _) | (refine zs ?_; intro _ _))
      apply TC_draw 7; kernel_rfl; exact Tryz.mixed
      · (refine' PG.rel ((fun v h => ∃ bm es clk, v = .map (some bm) ∧ h = [(bm, .obj (.map es clk))] ∧ MR .u8 es.toList kindsF)) rfl rfl (by intro _X; refine TL_callN rfl rfl rfl (fun w h => c130 w) ?_; rintro ⟨bm, es, clk⟩ hm; exact TL_nil (TQ_QR (h := [(bm, _)]) rfl ⟨bm, es, clk, rfl, rfl, hm⟩ (fun _ h => h))) ?_; rotate_left)
        iterate 2 (refine' pv ?_; rotate_left)
        (refine' PG.val rfl rfl (by rintro _ _ ⟨bm, es, clk, rfl, rfl, hm⟩ _X; refine TL_lookup (f := kindsF) (v := kdV k1 k2 k3 k4 f) rfl rfl rfl mm hm zero222 (by rw [hk]; rfl) ?_; exact qe) ?_; rotate_left)
        (refine' PG.val rfl rfl (by intro _X; refine TL_field1 (vs := [.bool k1, .bool k2, .bool k3, .bool k4, .func (.func f) #[] #[]]) (v := .func (.func f) #[] #[]) rfl rfl rfl ?_; exact qe) ?_; rotate_left)
        iterate 2 (refine' pv ?_; rotate_left)
        exact PG.nil
      rintro _ _ ⟨bmk, es, clk, rfl, rfl, hm⟩
      change TL _ _ _ _ _ _ _ _ _ _ _
      refine TL_callP rfl rfl rfl (fun _ : Lc => whyE res.1) (fun y => bkH r b bm y res.2.1.length ((b4, .cells [.int .u8 0] 5) :: (b3, .cells (encDd d) 50) :: G)) (fun y => BkOk y res.2.1 res.2.2) (fun w h => hdo _ _ w ((h.sub (List.sublist_append_right _ _)).perm pm_in2)) (fun y v hy hv => ?_) (fun y v hy hv => ?_)
      · have h0 : res.1 = 0 := by
          unfold whyE at hv; split at hv
          · assumption
          · cases hv
        repeat' (first | refine rn ?_ | (refine zb ?_; intro _ _) | (refine za ?_; intro _ _) | (refine zs ?_; intro _ _))
        refine TQ_leave1 (H' := bkH r b bm y res.2.1.length ((b4, .cells [.int .u8 0] 5) :: (b3, .cells (encDd d) 50) :: G)) (.inl ⟨rfl, .inl rfl⟩) (fun w hs => c128_ret _ w hs) Tryz.results88 (RV.cell1 rfl (mem_bk' (List.Mem.head _)) (by rfl)) (fun w' hs => ⟨y, hy, by rw [h0], hs.sub (List.Sublist.cons_cons _ (List.Sublist.cons_cons _ (List.Sublist.append_left (List.Sublist.cons _ (List.sublist_cons_self _ _)) _)))⟩)
      · have h0 : v = voidV res.1 := by
          unfold whyE at hv; split at hv
          · cases hv
          · cases hv; rfl
        subst h0
        repeat (first | apply TQ_then_panic | apply TQ_block_panic)
        refine TQ_leave1 (H' := (b4, .cells [.int .u8 res.1] 5) :: bkH r b bm y res.2.1.length ((b3, .cells (encDd d) 50) :: G)) (.inr ⟨_, rfl, rfl⟩) (fun w hs => c128_stop b4 res.1 0 w (hs.perm pm_in1.symm)) Tryz.results88 (RV.cell1 rfl (List.Mem.head _) (by rfl)) (fun w' hs => ⟨y, hy, rfl, hs.sub (List.Sublist.cons _ (List.Sublist.cons_cons _ (List.Sublist.cons_cons _ (List.Sublist.append_left (List.sublist_cons_self _ _) _))))⟩)
end Go.Proofs.YtkpkebpofpcmaaaGreatDoor
