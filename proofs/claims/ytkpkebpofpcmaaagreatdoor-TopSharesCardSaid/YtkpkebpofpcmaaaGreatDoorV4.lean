/- Walks of the package gallery, at the example of a gallery of one reach: what flows. -/
import Derived.Test.YtkpkebpofpcmaaaGreatDoorEngR
import Derived.Test.YtkpkebpofpcmaaaGreatDoorV3
namespace Go.Eng
open Go Go.RowKit
section
variable {P : Program} {N : Nat} {B : Nat} {w0 : World} {L : Env} {H : Hp}
/-- A function with one deferred call leaves, behind one range over a function. -/
theorem TQ_leaveMD {fn : Func} {R : Ending → World → Prop} {Dd : Nat} {k : FuncId} {cl : List Value} {e : Exit} {rs : List ResultVar} {vs : List Value} {H' H'' : Hp} [hent : EntP P k] (he : e = .ret ∨ e = .normal) (hu : Upd H Dd (.obj (.deferred (some []))) (.obj (.deferred none)) H')
    (hc : ∀ w, SH B w0 w H' → CallsDIn (FW none) 0 P k cl.toArray .returning w (fun e u' w' => (∃ v, e = .returned v) ∧ settle u' = .returning ∧ SH B w0 w' H''))
    (hr : fn.results = rs.toArray) (h1 : resVs P B w0 L H'' rs vs) (hR : ∀ w, SH B w0 w H'' → R (.returned (oneOr vs)) w) : TQ (bodyPostM (FW none) 0 P fn R) N [mark Dd, dfr k cl] B w0 L H e := fun a w hf hs => by
  have key : LeavesInM (FW none) 0 P fn a.tmps R [mark Dd, dfr k cl] .returning w := by
    have hs' := hs.putObj _ hu
    refine ⟨by simp, .inl ⟨Dd, _, rfl, run_takeDeferred (hs.holds _ _ hu.mem).2, ?_⟩⟩
    refine ⟨by simp, .inr ⟨fun h => by simp [FW] at h, .func k, cl.toArray, k, cl.toArray, rfl, by simpa [invoke, dfr] using hent.run cl.toArray _, fun _ _ => trivial, ?_⟩⟩
    refine (hc _ hs').mono ?_
    rintro e' u' w' ⟨⟨v, rfl⟩, hset, hs2⟩
    show LeavesInM (FW none) 0 P fn a.tmps R [] (settle u') w'
    rw [hset]
    exact ⟨_, run_resVs hr h1 hf hs2, hR _ hs2⟩
  rcases he with rfl | rfl
  · show LeavesInM _ _ _ _ _ _ a.defers _ _
    rw [hf.defers]; exact key
  · show LeavesInM _ _ _ _ _ _ a.defers _ _
    rw [hf.defers]; exact key
end
end Go.Eng
namespace Go.Proofs.YtkpkebpofpcmaaaGreatDoor
open Go Go.Eng Go.RowKit Go.Proofs
set_option maxHeartbeats 4000000
set_option maxRecDepth 10000
attribute [local irreducible] TL TC TQ RN

theorem pmB3g {lp Dd b : Nat × Blk} {ob G : Hp} : (lp :: Dd :: (b :: ob ++ G)).Perm (ob ++ (lp :: Dd :: b :: G)) := by
  refine (List.Perm.cons _ (List.Perm.cons _ (List.Perm.cons _ (List.Perm.refl _)))).trans ?_
  exact (List.perm_append_comm_assoc [lp, Dd, b] ob G)
def fl0 : List Sp := [(3, 8), (3, 5)]
def idV (c : List Value) : List Value := c
theorem c169 (a b r : Sp) (hr : r = (max a.1 b.1, min a.2 b.2)) (w : World) : Calls Tryz.prog 169 #[.agg (encSp a).toArray, .agg (encSp b).toArray] w (RetV w (.agg (encSp r).toArray)) := by
  subst hr
  refine enter (args := [.agg (encSp a).toArray, .agg (encSp b).toArray]) Tryz.func169 rfl Tryz.ntmps169 rfl (SH.refl _) ?_
  repeat' (first | refine rn ?_ | (refine zb ?_; intro _ _) | (refine za ?_; intro _ _) | (refine zs ?_; intro _ _))
  exact TQ_ret1 Tryz.results169 (RV.celln rfl mm (by rfl)) (fun w' hs => ⟨rfl, hs.below⟩)
theorem c177 (k : Int) (s : Sp) (h : s.1 ≤ s.2) (w : World) : Calls Tryz.prog 177 #[.int .i64 k, .agg (encSp s).toArray] w (RetV w (.agg (encSp s).toArray)) := by
  refine enter (args := [.int .i64 k, .agg (encSp s).toArray]) Tryz.func177 rfl Tryz.ntmps177 rfl (SH.refl _) ?_
  repeat' (first | refine rn ?_ | (refine zb ?_; intro _ _) | (refine za ?_; intro _ _) | (refine zs ?_; intro _ _))
  refine TC_cond_dec rfl (fun g => by omega) (fun _ => ?_)
  repeat' (first | refine rn ?_ | (refine zb ?_; intro _ _) | (refine za ?_; intro _ _) | (refine zs ?_; intro _ _))
  exact TQ_ret1 Tryz.results177 (RV.celln rfl mm (by rfl)) (fun w' hs => ⟨rfl, hs.below⟩)
theorem c207 {σ : Type} (b1 bc nb : Nat) (ro : Option Addr) (rc : Nat) (lp : Nat) (p : Nat → σ → Prop) (Y : Nat → σ → Hp) (w0 : World) (x0 : σ) (hp0 : p 0 x0) (h1 : Sl w0 2 encSp (some ⟨b1, 0, none⟩) [(3, 8)]) (h2 : Sl w0 2 idV (some ⟨bc, 0, none⟩) [[.slice ro 1 rc, .slice (some ⟨nb, 0, none⟩) 2 2]]) (h3 : Sl w0 2 encSp (some ⟨nb, 0, none⟩) [sp13, sp13]) (h4 : Sl w0 6 encRc ro [rc0])
    (hy : YldX Tryz.prog w0.heap.size w0 lp 2 (fun j => [.agg (encSp (fl0.getD j (0, 0))).toArray]) p Y (fun j => !(false && Nat.beq (j + 1) 2))) (w : World) (hs : SH w0.heap.size w0 w (Y 0 x0)) :
    Calls Tryz.prog 207 #[.func (.yield lp) #[] #[], .pointer (some ⟨b1, 0, none⟩), .pointer (some ⟨bc, 0, none⟩)] w (RetP w0.heap.size w0 (fun _ : σ => .tuple #[]) (Y 2) (p 2)) := by
  refine enter (args := [.func (.yield lp) #[] #[], .pointer (some ⟨b1, 0, none⟩), .pointer (some ⟨bc, 0, none⟩)]) Tryz.func207 rfl Tryz.ntmps207 rfl hs ?_
  repeat' (first | refine rn ?_ | (refine zb ?_; intro _ _) | (refine za ?_; intro _ _) | (refine zs ?_; intro _ _))
  apply TC_draw 8; kernel_rfl; exact Tryz.mixed
  · (refine' PG.val rfl rfl (by intro _X; refine TL_load_eln (u := ((3, 8) : Sp)) (i := 0) (o := 0) rfl rfl (fun w h => h.sl h1) rfl rfl ?_; exact qe) ?_; rotate_left)
    (refine' pv ?_; rotate_left)
    (refine' PG.val rfl rfl (by intro _X; refine TL_load_el1 (i := 0) (o := 1) rfl rfl (fun w h => h.sl h2) rfl rfl ?_; exact qe) ?_; rotate_left)
    (refine' PG.val rfl rfl (by intro _X; refine TL_index 0 rfl rfl rfl (fun w h => h.sl h3) rfl (by decide) (Nat.le_refl _) ?_; exact qe) ?_; rotate_left)
    (refine' PG.val rfl rfl (by intro _X; refine TL_load_eln (u := sp13) rfl rfl (fun w h => h.sl h3) rfl rfl ?_; exact qe) ?_; rotate_left)
    (refine' PG.val rfl rfl (by intro _X; refine TL_callV rfl rfl rfl (fun w h => c169 (3, 8) sp13 (3, 8) (by decide) w) ?_; exact qe) ?_; rotate_left)
    (refine' PG.val rfl rfl (by intro _X; refine TL_callV rfl rfl rfl (fun w h => c177 0 (3, 8) (by decide) w) ?_; exact qe) ?_; rotate_left)
    (refine' pn ?_; rotate_left)
    exact PG.nil
  rintro _ _ ⟨bn, _, rfl, rfl⟩
  change TL _ _ _ _ _ _ _ _ _ _ _
  repeat' (first | refine rn ?_ | (refine zb ?_; intro _ _) | (refine za ?_; intro _ _) | (refine zs ?_; intro _ _))
  refine TL_load_el1 (i := 0) (o := 0) rfl rfl (fun w h => h.sl h2) rfl rfl ?_
  repeat' (first | refine rn ?_ | (refine zb ?_; intro _ _) | (refine za ?_; intro _ _) | (refine zs ?_; intro _ _) | (refine TQ_roundN ?_) | (refine TC_loopN 8 ?_))
  refine TL_index 0 rfl rfl rfl (fun w h => h.sl h4) rfl (by decide) (by decide) ?_
  refine TL_load_eln (u := rc0) (vs := rcV) rfl rfl (fun w h => h.sl h4) rfl rfl ?_
  repeat' (first | refine rn ?_ | (refine zb ?_; intro _ _) | (refine za ?_; intro _ _) | (refine zs ?_; intro _ _))
  rename_i b6 _
  refine TL_yieldX (G := [_, _]) rfl rfl rfl hy 0 x0 (by decide) hp0 (by rfl) List.perm_append_comm (fun y hpy => ?_)
  repeat' (first | refine rn ?_ | (refine zb ?_; intro _ _) | (refine za ?_; intro _ _) | (refine zs ?_; intro _ _))
  apply TC_draw 19; kernel_rfl; exact Tryz.mixed
  · iterate 5 (refine' pv ?_; rotate_left)
    (refine' PG.val rfl rfl (by intro _X; refine TL_callV rfl rfl rfl (fun w h => c143 3 (by decide) w) ?_; exact qe) ?_; rotate_left)
    iterate 3 (refine' pv ?_; rotate_left)
    (refine' PG.val rfl rfl (by intro _X; refine TL_callV rfl rfl rfl (fun w h => c142 8 (by decide) w) ?_; exact qe) ?_; rotate_left)
    iterate 2 (refine' pv ?_; rotate_left)
    (refine' PG.val rfl rfl (by intro _X; refine TL_load_el1 (i := 0) (o := 1) rfl rfl (fun w h => h.sl h2) rfl rfl ?_; exact qe) ?_; rotate_left)
    iterate 2 (refine' pv ?_; rotate_left)
    (refine' PG.val rfl rfl (by intro _X; refine TL_index 1 rfl rfl rfl (fun w h => h.sl h3) rfl (by decide) (Nat.le_refl _) ?_; exact qe) ?_; rotate_left)
    (refine' PG.val rfl rfl (by intro _X; refine TL_load_eln (u := sp13) rfl rfl (fun w h => h.sl h3) rfl rfl ?_; exact qe) ?_; rotate_left)
    (refine' PG.val rfl rfl (by intro _X; refine TL_callV rfl rfl rfl (fun w h => c169 (min 3 5, min 8 5) sp13 (3, 5) (by decide) w) ?_; exact qe) ?_; rotate_left)
    (refine' PG.val rfl rfl (by intro _X; refine TL_callV rfl rfl rfl (fun w h => c177 1 (3, 5) (by decide) w) ?_; exact qe) ?_; rotate_left)
    exact PG.nil
  change TL _ _ _ _ _ _ _ _ _ _ _
  repeat' (first | refine rn ?_ | (refine zb ?_; intro _ _) | (refine za ?_; intro _ _) | (refine zs ?_; intro _ _) | (refine TQ_roundN ?_) | (refine TC_loopN 8 ?_))
  refine TL_yieldX (G := [_, _]) rfl rfl rfl hy 1 y (by decide) hpy (by rfl) (List.Perm.refl _) (fun y2 hpy2 => ?_)
  repeat' (first | refine rn ?_ | (refine zb ?_; intro _ _) | (refine za ?_; intro _ _) | (refine zs ?_; intro _ _))
  exact TQ_end0 Tryz.results207 (fun w' hs => ⟨y2, hpy2, rfl, hs.sub (List.sublist_append_left _ _)⟩)
structure FlR (w : World) (b1 bc nb : Nat) (ro : Option Addr) (rc : Nat) : Prop where
  a : Sl w 2 encSp (some ⟨b1, 0, none⟩) [(3, 8)]
  b : Sl w 2 idV (some ⟨bc, 0, none⟩) [[.slice ro 1 rc, .slice (some ⟨nb, 0, none⟩) 2 2]]
  c : Sl w 2 encSp (some ⟨nb, 0, none⟩) [sp13, sp13]
  d : Sl w 6 encRc ro [rc0]
theorem c206 (b1 bc nb : Nat) (ro : Option Addr) (rc : Nat) (w : World) (hR : FlR w b1 bc nb ro rc) :
    Calls Tryz.prog 206 #[.slice none 0 0, .func (.func 207) #[] #[.pointer (some ⟨b1, 0, none⟩), .pointer (some ⟨bc, 0, none⟩)]] w (RetP w.heap.size w (fun q : Option Addr × Nat × Hp => .slice q.1 2 q.2.1) (fun q => q.2.2) (fun q => Row 25 2 encSp q.1 q.2.1 q.2.2 fl0)) := by
  refine enterM (args := [.slice none 0 0, .func (.func 207) #[] #[.pointer (some ⟨b1, 0, none⟩), .pointer (some ⟨bc, 0, none⟩)]]) Tryz.func206 rfl Tryz.ntmps206 rfl (SH.refl _) ?_
  repeat' (first | refine rn ?_ | (refine zb ?_; intro _ _) | (refine za ?_; intro _ _) | (refine zs ?_; intro _ _))
  rename_i bs _
  refine TC_rangeX (σ := Option Addr × Nat × Hp × Nat) (ps := [7]) (k := 207) rfl rfl 2 false (fun h => by cases h) (fun j => [.agg (encSp (fl0.getD j (0, 0))).toArray])
    (fun j x => x.2.2.2 = j ∧ Row 25 2 encSp x.1 x.2.1 x.2.2.1 (fl0.take j)) (fun x => (bs, .cells [.slice x.1 x.2.2.2 x.2.1] 22) :: x.2.2.1) (none, 0, [], 0) ⟨rfl, Row.nil _ _ _⟩ (fun j => rfl) (fun w h => h) ?_ ?_ ?_
  · intro lp Dd rec j x G hj hpx
    obtain ⟨so, sc, ob, len⟩ := x
    obtain ⟨e1, hrow⟩ := hpx
    dsimp only at e1 hrow ⊢
    subst e1
    have hfl : fl0.length = 2 := rfl
    obtain ⟨v, hv⟩ : ∃ v, fl0[len]? = some v := ⟨_, List.getElem?_eq_getElem (by omega)⟩
    have hgd : fl0.getD len (0, 0) = v := by rw [List.getD_eq_getElem?_getD, hv]; rfl
    have htl : (fl0.take len).length = len := by rw [List.length_take]; omega
    have hsn : fl0.take (len + 1) = fl0.take len ++ [v] := by rw [List.take_add_one, hv]; rfl
    have hl1 : (fl0.take len ++ [v]).length = len + 1 := by simp [htl]
    rw [hgd]
    repeat' (first | refine rn ?_ | (refine zb ?_; intro _ _) | (refine za ?_; intro _ _) | (refine zs ?_; intro _ _))
    rename_i b5 _
    refine TQ_asgX up ?_
    repeat' (first | refine rn ?_ | (refine zb ?_; intro _ _) | (refine za ?_; intro _ _) | (refine zs ?_; intro _ _))
    refine TL_append (l := fl0.take len) (l2 := [v]) (enc := encSp) (G := _) rfl (by rfl) rfl rfl htl.symm rfl rfl hrow (pm_cons (pm_cons (pm_cons (pm_cons (pm_cons pm_here))))) (fun w h => Sl.of_blk h (List.Mem.head _) (fun _ _ => rfl) ⟨[], by rfl⟩) (fun u _ => rfl) (by simp only [List.length_singleton]; omega) (by simp only [List.length_singleton, maxLen]; omega) (fun so' sc' ob' hrow' => ?_)
    rw [hl1]
    repeat' (first | refine rn ?_ | (refine zb ?_; intro _ _) | (refine za ?_; intro _ _) | (refine zs ?_; intro _ _))
    refine TQ_bodyX (so', sc', ob', len + 1) ⟨rfl, by rw [hsn]; exact hrow'⟩ (fun w h => ?_)
    refine SH.perm (h.sub (H' := ob' ++ ((lp, .obj (recO rec .busy)) :: (Dd, .obj (.deferred (some []))) :: (bs, .cells [.slice so' (len + 1) sc'] 22) :: G)) (List.Sublist.append (List.Sublist.refl _) (List.Sublist.cons _ (List.sublist_cons_self _ _)))) ?_
    exact (List.Perm.cons _ (List.Perm.cons _ (List.Perm.refl _))).trans pmB3g
  · intro lp Y G hYG hy w' hs'
    exact c207 b1 bc nb ro rc lp _ Y w _ ⟨rfl, Row.nil _ _ _⟩ hR.a hR.b hR.c hR.d hy w' hs'
  · intro Dd x hpx
    obtain ⟨so, sc, ob, len⟩ := x
    obtain ⟨e1, hrow⟩ := hpx
    dsimp only at e1 hrow ⊢
    subst e1
    repeat' (first | refine rn ?_ | (refine zb ?_; intro _ _) | (refine za ?_; intro _ _) | (refine zs ?_; intro _ _))
    exact TQ_leaveM (rs := [.tmp 4]) (vs := [.slice so 2 sc]) (.inl rfl) up Tryz.results206 ⟨RV.tmp rfl, trivial⟩ (fun w' hs => ⟨(so, sc, ob), hrow, rfl, hs.sub (List.Sublist.cons _ (List.Sublist.cons _ (List.Sublist.refl _)))⟩)
theorem c171 (b1 bc nb : Nat) (ro : Option Addr) (rc : Nat) (w : World) (hR : FlR w b1 bc nb ro rc) :
    Calls Tryz.prog 171 #[.func (.func 207) #[] #[.pointer (some ⟨b1, 0, none⟩), .pointer (some ⟨bc, 0, none⟩)]] w (RetP w.heap.size w (fun q : Option Addr × Nat × Hp => .slice q.1 2 q.2.1) (fun q => q.2.2) (fun q => Row 25 2 encSp q.1 q.2.1 q.2.2 fl0)) := by
  refine enter (args := [.func (.func 207) #[] #[.pointer (some ⟨b1, 0, none⟩), .pointer (some ⟨bc, 0, none⟩)]]) Tryz.func171 rfl Tryz.ntmps171 rfl (SH.refl _) ?_
  repeat' (first | refine rn ?_ | (refine zb ?_; intro _ _) | (refine za ?_; intro _ _) | (refine zs ?_; intro _ _))
  refine TL_callN rfl rfl rfl (fun w h => c206 b1 bc nb ro rc w ⟨h.sl hR.a, h.sl hR.b, h.sl hR.c, h.sl hR.d⟩) ?_
  rintro ⟨so, sc, ob⟩ hr
  dsimp only at hr ⊢
  repeat' (first | refine rn ?_ | (refine zb ?_; intro _ _) | (refine za ?_; intro _ _) | (refine zs ?_; intro _ _))
  exact TQ_ret1 Tryz.results171 (RV.tmp rfl) (fun w' hs => ⟨(so, sc, ob), hr, rfl, hs.sub (List.sublist_append_left _ _)⟩)
theorem c172 (cv : List Value) (hcv : cv.length = 2) (w : World) : Calls Tryz.prog 172 #[.agg cv.toArray, .agg (encSp (3, 8)).toArray] w (RetP w.heap.size w (fun q : Nat × Nat => .func (.func 207) #[] #[.pointer (some ⟨q.1, 0, none⟩), .pointer (some ⟨q.2, 0, none⟩)]) (fun q => [(q.1, .cells (encSp (3, 8)) 25), (q.2, .cells cv 237)]) (fun _ => True)) := by
  obtain ⟨a0, a1, rfl⟩ : ∃ a0 a1, cv = [a0, a1] := by
    match cv, hcv with
    | [a0, a1], _ => exact ⟨a0, a1, rfl⟩
  refine enter (args := [.agg [a0, a1].toArray, .agg (encSp (3, 8)).toArray]) Tryz.func172 rfl Tryz.ntmps172 rfl (SH.refl _) ?_
  repeat' (first | refine rn ?_ | (refine zb ?_; intro _ _) | (refine za ?_; intro _ _) | (refine zs ?_; intro _ _))
  rename_i b2 _ b3 _
  exact TQ_ret1 Tryz.results172 (RV.tmp rfl) (fun w' hs => ⟨(b3, b2), trivial, rfl, hs⟩)
theorem c173 (ro : Option Addr) (rc : Nat) (w : World) : Calls Tryz.prog 173 #[.slice ro 1 rc] w (RetP w.heap.size w (fun b : Nat => .func (.func 208) #[] #[.pointer (some ⟨b, 0, none⟩)]) (fun b => [(b, .cells [.slice ro 1 rc] 235)]) (fun _ => True)) := by
  refine enter (args := [.slice ro 1 rc]) Tryz.func173 rfl Tryz.ntmps173 rfl (SH.refl _) ?_
  repeat' (first | refine rn ?_ | (refine zb ?_; intro _ _) | (refine za ?_; intro _ _) | (refine zs ?_; intro _ _))
  rename_i b1 _
  exact TQ_ret1 Tryz.results173 (RV.tmp rfl) (fun w' hs => ⟨b1, trivial, rfl, hs⟩)
theorem c208 {B : Nat} {w0 : World} (b1 : Nat) (ro : Option Addr) (rc : Nat) (lp : Nat) (Z Y : Nat → Hp) (hp : ∀ j, ((b1, Blk.cells [.slice ro 1 rc] 235) :: Z j).Perm (Y j)) (h4 : ∀ (w : World) (A : Hp), SH B w0 w A → (∀ q ∈ Z 0, q ∈ A) → Sl w 6 encRc ro [rc0])
    (hy : Yld Tryz.prog B w0 lp 1 (fun _ => [.int .i64 0, .agg rcV.toArray]) Y) (w : World) (hs : SH B w0 w (Y 0)) :
    Calls Tryz.prog 208 #[.func (.yield lp) #[] #[], .pointer (some ⟨b1, 0, none⟩)] w (RetP B w0 (fun _ : Unit => .tuple #[]) (fun _ => Y 1) (fun _ => True)) := by
  refine enter (args := [.func (.yield lp) #[] #[], .pointer (some ⟨b1, 0, none⟩)]) Tryz.func208 rfl Tryz.ntmps208 rfl (hs.perm (hp 0)) ?_
  repeat' (first | refine rn ?_ | (refine zb ?_; intro _ _) | (refine za ?_; intro _ _) | (refine zs ?_; intro _ _) | (refine TQ_roundN ?_) | (refine TC_loopN 8 ?_))
  refine TL_index 0 rfl rfl rfl (fun w h => h4 w _ h (fun q hq => List.mem_cons_of_mem _ hq)) rfl (by decide) (by decide) ?_
  refine TL_load_eln (u := rc0) (vs := rcV) rfl rfl (fun w h => h4 w _ h (fun q hq => List.mem_cons_of_mem _ hq)) rfl rfl ?_
  repeat' (first | refine rn ?_ | (refine zb ?_; intro _ _) | (refine za ?_; intro _ _) | (refine zs ?_; intro _ _) | (refine TQ_roundN ?_) | (refine TC_loopN 8 ?_))
  refine TL_yield rfl rfl rfl hy 0 [] (by decide) (by rfl) (by rw [List.append_nil]; exact (hp 0).symm) ?_
  repeat' (first | refine rn ?_ | (refine zb ?_; intro _ _) | (refine za ?_; intro _ _) | (refine zs ?_; intro _ _) | (refine TQ_roundN ?_) | (refine TC_loopN 8 ?_))
  exact TQ_end0 Tryz.results208 (fun w' hs => ⟨(), trivial, rfl, by rw [List.append_nil] at hs; exact hs⟩)
structure FtR (w : World) (br bt : Nat) : Prop where
  r : Sl w 6 encRc (some ⟨br, 0, none⟩) [rc0]
  t : Sl w 2 encSp (some ⟨bt, 0, none⟩) [(3, 5)]
theorem c175 (n : Int) (hn : 0 ≤ n ∧ n ≤ 1000) (br bt : Nat) (w : World) (hR : FtR w br bt) : Calls Tryz.prog 175 #[.int .i64 n, .pointer (some ⟨br, 0, none⟩), .pointer (some ⟨bt, 0, none⟩)] w (RetV w (.bool (decide (3 ≤ min n 5)))) := by
  refine enter (args := [.int .i64 n, .pointer (some ⟨br, 0, none⟩), .pointer (some ⟨bt, 0, none⟩)]) Tryz.func175 rfl Tryz.ntmps175 rfl (SH.refl _) ?_
  repeat' (first | refine rn ?_ | (refine zb ?_; intro _ _) | (refine za ?_; intro _ _) | (refine zs ?_; intro _ _))
  apply TC_draw 6; kernel_rfl; exact Tryz.mixed
  · (refine' PG.val rfl rfl (by intro _X; refine TL_load_eln (u := rc0) (vs := rcV) (i := 0) (o := 0) rfl rfl (fun w h => h.sl hR.r) rfl rfl ?_; exact qe) ?_; rotate_left)
    (refine' pv ?_; rotate_left)
    (refine' PG.val rfl rfl (by intro _X; refine TL_callV rfl rfl rfl (fun w h => c142 n (by omega) w) ?_; exact qe) ?_; rotate_left)
    (refine' pv ?_; rotate_left)
    (refine' PG.val rfl rfl (by intro _X; refine TL_load_el1 (i := 0) (o := 0) rfl rfl (fun w h => h.sl hR.t) rfl rfl ?_; exact qe) ?_; rotate_left)
    (refine' pv ?_; rotate_left)
    exact PG.nil
  change TL _ _ _ _ _ _ _ _ _ _ _
  repeat' (first | refine rn ?_ | (refine zb ?_; intro _ _) | (refine za ?_; intro _ _) | (refine zs ?_; intro _ _))
  exact TQ_ret1 Tryz.results175 (RV.tmp rfl) (fun w' hs => ⟨rfl, hs.below⟩)
theorem c176 (n : Int) (hn : 0 ≤ n ∧ n ≤ 1000) (br bt : Nat) (w : World) (hR : FtR w br bt) : Calls Tryz.prog 176 #[.int .i64 n, .pointer (some ⟨br, 0, none⟩), .pointer (some ⟨bt, 0, none⟩)] w (RetV w (.bool (decide (5 < min n 5)))) := by
  refine enter (args := [.int .i64 n, .pointer (some ⟨br, 0, none⟩), .pointer (some ⟨bt, 0, none⟩)]) Tryz.func176 rfl Tryz.ntmps176 rfl (SH.refl _) ?_
  repeat' (first | refine rn ?_ | (refine zb ?_; intro _ _) | (refine za ?_; intro _ _) | (refine zs ?_; intro _ _))
  apply TC_draw 6; kernel_rfl; exact Tryz.mixed
  · (refine' PG.val rfl rfl (by intro _X; refine TL_load_eln (u := rc0) (vs := rcV) (i := 0) (o := 0) rfl rfl (fun w h => h.sl hR.r) rfl rfl ?_; exact qe) ?_; rotate_left)
    (refine' pv ?_; rotate_left)
    (refine' PG.val rfl rfl (by intro _X; refine TL_callV rfl rfl rfl (fun w h => c143 n (by omega) w) ?_; exact qe) ?_; rotate_left)
    (refine' pv ?_; rotate_left)
    (refine' PG.val rfl rfl (by intro _X; refine TL_load_el1 (i := 0) (o := 1) rfl rfl (fun w h => h.sl hR.t) rfl rfl ?_; exact qe) ?_; rotate_left)
    (refine' pv ?_; rotate_left)
    exact PG.nil
  change TL _ _ _ _ _ _ _ _ _ _ _
  repeat' (first | refine rn ?_ | (refine zb ?_; intro _ _) | (refine za ?_; intro _ _) | (refine zs ?_; intro _ _))
  exact TQ_ret1 Tryz.results176 (RV.tmp rfl) (fun w' hs => ⟨rfl, hs.below⟩)
theorem c174_175 (br bt : Nat) (w : World) (hR : FtR w br bt) : Calls Tryz.prog 174 #[.agg (encSp (3, 8)).toArray, .func (.func 175) #[] #[.pointer (some ⟨br, 0, none⟩), .pointer (some ⟨bt, 0, none⟩)]] w (RetV w (.int .i64 3)) := by
  refine enter (args := [.agg (encSp (3, 8)).toArray, .func (.func 175) #[] #[.pointer (some ⟨br, 0, none⟩), .pointer (some ⟨bt, 0, none⟩)]]) Tryz.func174 rfl Tryz.ntmps174 rfl (SH.refl _) ?_
  repeat' (first | refine rn ?_ | (refine zb ?_; intro _ _) | (refine za ?_; intro _ _) | (refine zs ?_; intro _ _))
  apply TC_draw 6; kernel_rfl; exact Tryz.mixed
  · iterate 6 (refine' pv ?_; rotate_left)
    exact PG.nil
  change TL _ _ _ _ _ _ _ _ _ _ _
  repeat' (first | refine rn ?_ | (refine zb ?_; intro _ _) | (refine za ?_; intro _ _) | (refine zs ?_; intro _ _) | (refine TQ_roundN ?_) | (refine TC_loopN 8 ?_))
  refine TL_callV rfl rfl rfl (fun w h => c175 6 (by decide) br bt w ⟨h.sl hR.r, h.sl hR.t⟩) ?_
  repeat' (first | refine rn ?_ | (refine zb ?_; intro _ _) | (refine za ?_; intro _ _) | (refine zs ?_; intro _ _) | (refine TQ_roundN ?_) | (refine TC_loopN 8 ?_))
  refine TL_callV rfl rfl rfl (fun w h => c175 4 (by decide) br bt w ⟨h.sl hR.r, h.sl hR.t⟩) ?_
  repeat' (first | refine rn ?_ | (refine zb ?_; intro _ _) | (refine za ?_; intro _ _) | (refine zs ?_; intro _ _) | (refine TQ_roundN ?_) | (refine TC_loopN 8 ?_))
  refine TL_callV rfl rfl rfl (fun w h => c175 3 (by decide) br bt w ⟨h.sl hR.r, h.sl hR.t⟩) ?_
  repeat' (first | refine rn ?_ | (refine zb ?_; intro _ _) | (refine za ?_; intro _ _) | (refine zs ?_; intro _ _) | (refine TQ_roundN ?_) | (refine TC_loopN 8 ?_))
  exact TQ_ret1 Tryz.results174 (RV.tmp rfl) (fun w' hs => ⟨rfl, hs.below⟩)
theorem c174_176 (br bt : Nat) (w : World) (hR : FtR w br bt) : Calls Tryz.prog 174 #[.agg (encSp (3, 8)).toArray, .func (.func 176) #[] #[.pointer (some ⟨br, 0, none⟩), .pointer (some ⟨bt, 0, none⟩)]] w (RetV w (.int .i64 9)) := by
  refine enter (args := [.agg (encSp (3, 8)).toArray, .func (.func 176) #[] #[.pointer (some ⟨br, 0, none⟩), .pointer (some ⟨bt, 0, none⟩)]]) Tryz.func174 rfl Tryz.ntmps174 rfl (SH.refl _) ?_
  repeat' (first | refine rn ?_ | (refine zb ?_; intro _ _) | (refine za ?_; intro _ _) | (refine zs ?_; intro _ _))
  apply TC_draw 6; kernel_rfl; exact Tryz.mixed
  · iterate 6 (refine' pv ?_; rotate_left)
    exact PG.nil
  change TL _ _ _ _ _ _ _ _ _ _ _
  repeat' (first | refine rn ?_ | (refine zb ?_; intro _ _) | (refine za ?_; intro _ _) | (refine zs ?_; intro _ _) | (refine TQ_roundN ?_) | (refine TC_loopN 8 ?_))
  refine TL_callV rfl rfl rfl (fun w h => c176 6 (by decide) br bt w ⟨h.sl hR.r, h.sl hR.t⟩) ?_
  repeat' (first | refine rn ?_ | (refine zb ?_; intro _ _) | (refine za ?_; intro _ _) | (refine zs ?_; intro _ _) | (refine TQ_roundN ?_) | (refine TC_loopN 8 ?_))
  refine TL_callV rfl rfl rfl (fun w h => c176 8 (by decide) br bt w ⟨h.sl hR.r, h.sl hR.t⟩) ?_
  repeat' (first | refine rn ?_ | (refine zb ?_; intro _ _) | (refine za ?_; intro _ _) | (refine zs ?_; intro _ _) | (refine TQ_roundN ?_) | (refine TC_loopN 8 ?_))
  exact TQ_ret1 Tryz.results174 (RV.tmp rfl) (fun w' hs => ⟨rfl, hs.below⟩)
theorem c170 {B : Nat} {w0 : World} {H : Hp} (p4 p5 : Value) (w : World) (hs : SH B w0 w H) :
    CallsDIn (FW none) 0 Tryz.prog 170 #[p4, p5] .returning w (fun e u' w' => (∃ v, e = .returned v) ∧ settle u' = .returning ∧ SH B w0 w' H) := by
  refine enterRec (args := [p4, p5]) (v := .nilIface) (u' := .returning) Tryz.func170 rfl Tryz.ntmps170 rfl rfl rfl (.inl ⟨rfl, rfl, rfl⟩) hs ?_
  repeat' (first | refine rn ?_ | (refine zb ?_; intro _ _) | (refine za ?_; intro _ _) | (refine zs ?_; intro _ _))
  refine TL_neq_nilnil rfl Tryz.underlying20 rfl ?_
  repeat' (first | refine rn ?_ | (refine zb ?_; intro _ _) | (refine za ?_; intro _ _) | (refine zs ?_; intro _ _))
  exact TQ_end0 Tryz.results170 (fun w' hs => ⟨⟨_, rfl⟩, rfl, hs⟩)
theorem memV {p : Nat × Blk} {V H : Hp} (hp : p ∈ V) (h : p ∈ V → p ∈ H := by intro hp; repeat (first | exact hp | exact List.mem_append_left _ hp | apply List.mem_cons_of_mem | apply List.mem_append_right)) : p ∈ H := h hp
def crV (ro : Option Addr) (rc nb : Nat) : List Value := [.slice ro 1 rc, .slice (some ⟨nb, 0, none⟩) 2 2]
theorem c141 (nb : Nat) (ro : Option Addr) (rc : Nat) (w : World) (h3 : Sl w 2 encSp (some ⟨nb, 0, none⟩) [sp13, sp13]) (h4 : Sl w 6 encRc ro [rc0]) :
    Calls Tryz.prog 141 #[.agg (crV ro rc nb).toArray, .agg (encSp (3, 8)).toArray] w (RetP w.heap.size w (fun q : Option Addr × Nat × Hp => .tuple #[.slice q.1 2 q.2.1, .bool true]) (fun q => q.2.2) (fun q => Row 25 2 encSp q.1 q.2.1 q.2.2 fl0)) := by
  refine enterM (args := [.agg (crV ro rc nb).toArray, .agg (encSp (3, 8)).toArray]) Tryz.func141 rfl Tryz.ntmps141 rfl (SH.refl _) ?_
  repeat' (first | refine rn ?_ | (refine zb ?_; intro _ _) | (refine za ?_; intro _ _) | (refine zs ?_; intro _ _))
  rename_i b2 _ b3 _ b4 _ b5 _
  refine TL_defer rfl ?_
  repeat' (first | refine rn ?_ | (refine zb ?_; intro _ _) | (refine za ?_; intro _ _) | (refine zs ?_; intro _ _))
  refine TL_callN rfl rfl rfl (fun w h => c172 (crV ro rc nb) rfl w) ?_
  rintro ⟨q1, q2⟩ _
  dsimp only
  refine TL_callN rfl rfl rfl (fun w h => c171 q1 q2 nb ro rc w ⟨Sl.of_blk (k := 2) (l := [(3, 8)]) h (List.Mem.head _) (fun _ _ => rfl) ⟨[], rfl⟩, Sl.of_blk (k := 2) (enc := idV) (l := [crV ro rc nb]) h (List.Mem.tail _ (List.Mem.head _)) (fun y hy => by rw [List.mem_singleton.1 hy]; rfl) ⟨[], rfl⟩, h.sl h3, h.sl h4⟩) ?_
  rintro ⟨so, sc, ob⟩ hr
  dsimp only at hr ⊢
  repeat' (first | refine rn ?_ | (refine zb ?_; intro _ _) | (refine za ?_; intro _ _) | (refine zs ?_; intro _ _))
  refine TL_callN rfl rfl rfl (fun w h => c173 ro rc w) ?_
  rintro bk _
  repeat' (first | refine rn ?_ | (refine zb ?_; intro _ _) | (refine za ?_; intro _ _) | (refine zs ?_; intro _ _))
  obtain ⟨V, hV⟩ : ∃ V : Hp, V = ob ++ ((q1, Blk.cells (encSp (3, 8)) 25) :: (q2, Blk.cells (crV ro rc nb) 237) :: (b5, Blk.cells [.bool false] 4) :: (b4, Blk.cells [.slice so 2 sc] 22) :: (b3, Blk.cells (encSp (3, 8)) 25) :: [(b2, Blk.cells (crV ro rc nb) 237)]) := ⟨_, rfl⟩
  have v4 : (b4, Blk.cells [.slice so 2 sc] 22) ∈ V := by rw [hV]; exact mm
  have vr : ∀ p ∈ ob, p ∈ V := fun p hp => by rw [hV]; exact List.mem_append_left _ hp
  refine TC_range (ps := [20, 21]) (k := 208) rfl rfl 1 (fun _ => [.int .i64 0, .agg rcV.toArray]) (fun _ => (bk, Blk.cells [.slice ro 1 rc] 235) :: V) (fun _ => rfl) (fun w h => by rw [hV]; exact h) ?_ ?_ ?_
  · intro lp Dd rec j G' hj
    repeat' (first | refine rn ?_ | (refine zb ?_; intro _ _) | (refine za ?_; intro _ _) | (refine zs ?_; intro _ _))
    rename_i b7 _
    refine TQ_asg (rec := rec) up ?_
    repeat' (first | refine rn ?_ | (refine zb ?_; intro _ _) | (refine za ?_; intro _ _) | (refine zs ?_; intro _ _))
    refine TL_load1 rfl rfl (T := 22) (cs := [.slice so 2 sc]) (memV v4) rfl ?_
    repeat' (first | refine rn ?_ | (refine zb ?_; intro _ _) | (refine za ?_; intro _ _) | (refine zs ?_; intro _ _))
    refine TL_index 1 rfl rfl rfl (fun w h => hr.sl h (fun p hp => memV (vr p hp))) rfl (by decide) (by decide) ?_
    refine TL_load_eln (u := ((3, 5) : Sp)) (vs := [.int .i64 3, .int .i64 5]) rfl rfl (fun w h => hr.sl h (fun p hp => memV (vr p hp))) rfl rfl ?_
    repeat' (first | refine rn ?_ | (refine zb ?_; intro _ _) | (refine za ?_; intro _ _) | (refine zs ?_; intro _ _))
    rename_i b8 _
    refine TL_load1 rfl rfl (T := 22) (cs := [.slice so 2 sc]) (memV v4) rfl ?_
    repeat' (first | refine rn ?_ | (refine zb ?_; intro _ _) | (refine za ?_; intro _ _) | (refine zs ?_; intro _ _))
    refine TL_index 0 rfl rfl rfl (fun w h => hr.sl h (fun p hp => memV (vr p hp))) rfl (by decide) (by decide) ?_
    refine TL_load_eln (u := ((3, 8) : Sp)) rfl rfl (fun w h => hr.sl h (fun p hp => memV (vr p hp))) rfl rfl ?_
    repeat' (first | refine rn ?_ | (refine zb ?_; intro _ _) | (refine za ?_; intro _ _) | (refine zs ?_; intro _ _))
    refine TL_callV rfl rfl rfl (fun w h => c174_175 b7 b8 w ⟨Sl.of_blk (k := 6) (enc := encRc) (l := [rc0]) h (List.Mem.tail _ (List.Mem.head _)) (fun _ _ => rfl) ⟨[], rfl⟩, Sl.of_blk (k := 2) (l := [(3, 5)]) h (List.Mem.head _) (fun _ _ => rfl) ⟨[], rfl⟩⟩) ?_
    repeat' (first | refine rn ?_ | (refine zb ?_; intro _ _) | (refine za ?_; intro _ _) | (refine zs ?_; intro _ _))
    refine TL_load1 rfl rfl (T := 22) (cs := [.slice so 2 sc]) (memV v4) rfl ?_
    repeat' (first | refine rn ?_ | (refine zb ?_; intro _ _) | (refine za ?_; intro _ _) | (refine zs ?_; intro _ _))
    refine TL_index 0 rfl rfl rfl (fun w h => hr.sl h (fun p hp => memV (vr p hp))) rfl (by decide) (by decide) ?_
    refine TL_load_eln (u := ((3, 8) : Sp)) rfl rfl (fun w h => hr.sl h (fun p hp => memV (vr p hp))) rfl rfl ?_
    repeat' (first | refine rn ?_ | (refine zb ?_; intro _ _) | (refine za ?_; intro _ _) | (refine zs ?_; intro _ _))
    refine TL_callV rfl rfl rfl (fun w h => c174_176 b7 b8 w ⟨Sl.of_blk (k := 6) (enc := encRc) (l := [rc0]) h (List.Mem.tail _ (List.Mem.head _)) (fun _ _ => rfl) ⟨[], rfl⟩, Sl.of_blk (k := 2) (l := [(3, 5)]) h (List.Mem.head _) (fun _ _ => rfl) ⟨[], rfl⟩⟩) ?_
    repeat' (first | refine rn ?_ | (refine zb ?_; intro _ _) | (refine za ?_; intro _ _) | (refine zs ?_; intro _ _))
    rename_i b11 _
    apply TC_draw 6; kernel_rfl; exact Tryz.mixed
    · (refine' pv ?_; rotate_left)
      (refine' PG.val rfl rfl (by intro _X; refine TL_load1 rfl rfl (T := 22) (cs := [.slice so 2 sc]) (memV v4) rfl ?_; exact qe) ?_; rotate_left)
      (refine' pv ?_; rotate_left)
      (refine' PG.val rfl rfl (by intro _X; refine TL_index 0 rfl rfl rfl (fun w h => hr.sl h (fun p hp => memV (vr p hp))) rfl (by decide) (by decide) ?_; exact qe) ?_; rotate_left)
      (refine' PG.val rfl rfl (by intro _X; refine TL_load_eln (u := ((3, 8) : Sp)) (vs := [.int .i64 3, .int .i64 8]) rfl rfl (fun w h => hr.sl h (fun p hp => memV (vr p hp))) rfl rfl ?_; exact qe) ?_; rotate_left)
      (refine' pv ?_; rotate_left)
      exact PG.nil
    change TL _ _ _ _ _ _ _ _ _ _ _
    repeat' (first | refine rn ?_ | (refine zb ?_; intro _ _) | (refine za ?_; intro _ _) | (refine zs ?_; intro _ _))
    exact TQ_body (fun w h => h.sub (List.Sublist.cons _ (List.Sublist.cons _ (List.Sublist.cons _ (List.Sublist.refl _)))))
  · intro lp Y G' hY hyld w hs
    exact c208 bk ro rc lp (fun _ => G' ++ V) Y (fun j => by rw [hY]; exact List.perm_middle.symm) (fun w A h _ => h.sl h4) hyld w hs
  intro Dd
  subst hV
  repeat' (first | refine rn ?_ | (refine zb ?_; intro _ _) | (refine za ?_; intro _ _) | (refine zs ?_; intro _ _))
  exact TQ_leaveMD (k := 170) (cl := [.pointer (some ⟨b4, 0, none⟩), .pointer (some ⟨b5, 0, none⟩)]) (rs := [.cell 4 22, .cell 5 4]) (vs := [.slice so 2 sc, .bool true]) (.inl rfl) up (fun w h => c170 _ _ w h) Tryz.results141 ⟨RV.cell1 rfl mm (by rfl), RV.cell1 rfl mm (by rfl), trivial⟩ (fun w' hs => ⟨(so, sc, ob), hr, rfl, hs.sub (List.Sublist.cons _ (List.Sublist.cons _ (List.sublist_append_left _ _)))⟩)
theorem c105 (ao : Option Addr) (c : Nat) (w : World) (h : Sl w 6 encRc ao [rc0]) : Calls Tryz.prog 105 #[.slice ao 1 c, .agg (encSp (3, 8)).toArray, .slice none 0 0] w (RetP w.heap.size w (fun q : (Option Addr × Nat × Hp) × (Option Addr × Nat) => .tuple #[.slice q.1.1 2 q.1.2.1, .slice q.2.1 1 q.2.2, .int .i64 0]) (fun q => q.1.2.2) (fun q => Row 25 2 encSp q.1.1 q.1.2.1 q.1.2.2 fl0)) := by
  refine enter (args := [.slice ao 1 c, .agg (encSp (3, 8)).toArray, .slice none 0 0]) Tryz.func105 rfl Tryz.ntmps105 rfl (SH.refl _) ?_
  repeat' (first | refine rn ?_ | (refine zb ?_; intro _ _) | (refine za ?_; intro _ _) | (refine zs ?_; intro _ _))
  refine TL_callV rfl rfl rfl (fun w h' => c139 ao c w (h'.sl h)) ?_
  repeat' (first | refine rn ?_ | (refine zb ?_; intro _ _) | (refine za ?_; intro _ _) | (refine zs ?_; intro _ _))
  refine TL_callN rfl rfl rfl (fun w h' => c140 ao c w (h'.sl h)) ?_
  rintro ⟨nb, ro, rc, rb⟩ hr
  dsimp only at hr ⊢
  repeat' (first | refine rn ?_ | (refine zb ?_; intro _ _) | (refine za ?_; intro _ _) | (refine zs ?_; intro _ _))
  rename_i b10 _
  refine TL_callN rfl rfl rfl (fun w h' => c141 nb ro rc w (Sl.of_blk (k := 2) (l := [sp13, sp13]) h' (List.Mem.tail _ (List.Mem.head _)) (fun _ _ => rfl) ⟨[], rfl⟩) (hr.sl h' (fun p hp => List.mem_cons_of_mem _ (List.mem_cons_of_mem _ (List.mem_append_left _ hp))))) ?_
  rintro ⟨so, sc, ob⟩ hf
  dsimp only at hf ⊢
  repeat' (first | refine rn ?_ | (refine zb ?_; intro _ _) | (refine za ?_; intro _ _) | (refine zs ?_; intro _ _) | (refine TQ_roundN ?_) | (refine TC_loopN 8 ?_))
  refine TL_index 0 rfl rfl rfl (fun w h' => hr.sl h' (fun p hp => List.mem_append_right _ (List.mem_cons_of_mem _ (List.mem_cons_of_mem _ (List.mem_append_left _ hp))))) rfl (by decide) (by decide) ?_
  refine TL_load_eln (u := rc0) (vs := rcV) rfl rfl (fun w h' => hr.sl h' (fun p hp => List.mem_append_right _ (List.mem_cons_of_mem _ (List.mem_cons_of_mem _ (List.mem_append_left _ hp))))) rfl rfl ?_
  repeat' (first | refine rn ?_ | (refine zb ?_; intro _ _) | (refine za ?_; intro _ _) | (refine zs ?_; intro _ _))
  rename_i b13 _
  refine TL_index 0 rfl rfl rfl (fun w h' => hf.sl h' (fun p hp => List.mem_cons_of_mem _ (List.mem_append_left _ hp))) rfl (by decide) (by decide) ?_
  refine TL_load_eln (u := ((3, 8) : Sp)) (vs := [.int .i64 3, .int .i64 8]) rfl rfl (fun w h' => hf.sl h' (fun p hp => List.mem_cons_of_mem _ (List.mem_append_left _ hp))) rfl rfl ?_
  repeat' (first | refine rn ?_ | (refine zb ?_; intro _ _) | (refine za ?_; intro _ _) | (refine zs ?_; intro _ _))
  rename_i b14 _
  apply TC_draw 27; kernel_rfl; exact Tryz.mixed
  · iterate 11 (refine' pv ?_; rotate_left)
    (refine' PG.val rfl rfl (by intro _X; refine TL_callV rfl rfl rfl (fun w h => c142 3 (by decide) w) ?_; exact qe) ?_; rotate_left)
    iterate 11 (refine' pv ?_; rotate_left)
    (refine' PG.val rfl rfl (by intro _X; refine TL_callV rfl rfl rfl (fun w h => c143 8 (by decide) w) ?_; exact qe) ?_; rotate_left)
    iterate 2 (refine' pv ?_; rotate_left)
    (refine' PG.rel ((fun v h => ∃ b, v = .slice (some ⟨b, 0, none⟩) 1 1 ∧ h = [(b, .cells ([.int .i64 (3 + 0 - min 3 5), .int .i64 (8 + 0 - min 8 5)]) 25)])) rfl rfl (by intro _X; apply TL_buildSlice; exact rfl; exact rfl; exact rfl; exact rfl; exact rfl; intro b _; exact TL_nil (TQ_QR (h := [(b, _)]) rfl ⟨b, rfl, rfl⟩ (fun _ h => h))) ?_; rotate_left)
    exact PG.nil
  rintro _ _ ⟨vb, rfl, rfl⟩
  change TL _ _ _ _ _ _ _ _ _ _ _
  refine TL_append (l := ([] : List Sp)) (l2 := [(3 + 0 - min 3 5, 8 + 0 - min 8 5)]) (enc := encSp) (G := _) rfl (by rfl) rfl rfl rfl rfl rfl (Row.nil _ _ _) pm_here (fun w h => Sl.of_blk h (List.Mem.head _) (fun _ _ => rfl) ⟨[], by rfl⟩) (fun u _ => rfl) (by decide) (by decide) (fun so2 sc2 ob2 hr2 => ?_)
  repeat' (first | refine rn ?_ | (refine zb ?_; intro _ _) | (refine za ?_; intro _ _) | (refine zs ?_; intro _ _) | (refine TQ_roundN ?_) | (refine TC_loopN 8 ?_))
  exact TQ_ret3 Tryz.results105 (RV.tmp rfl) (RV.tmp rfl) (RV.tmp rfl) (fun w' hs => ⟨((so, sc, ob), (so2, sc2)), hf, rfl, hs.sub (List.sublist_append_of_sublist_right (List.Sublist.cons _ (List.Sublist.cons _ (List.Sublist.cons _ (List.sublist_append_left _ _)))))⟩)
theorem c61 (w : World) : Calls Tryz.prog 61 #[] w (RetV w (.bool true)) := by
  refine enter (args := []) Tryz.func61 rfl Tryz.ntmps61 rfl (SH.refl _) ?_
  repeat' (first | refine rn ?_ | (refine zb ?_; intro _ _) | (refine za ?_; intro _ _) | (refine zs ?_; intro _ _))
  rename_i bsh _ bp _
  refine TL_callN rfl rfl rfl (fun w h => c104 bsh bp w (Sl.of_blk (k := 4) (l := [shot0]) h mm (fun _ _ => rfl) ⟨[], rfl⟩) (Sl.of_blk (k := 1) (l := [0, 1]) h mm (fun _ _ => rfl) ⟨[], rfl⟩)) ?_
  rintro ⟨so, sc, ob⟩ hr
  dsimp only at hr ⊢
  repeat' (first | refine rn ?_ | (refine zb ?_; intro _ _) | (refine za ?_; intro _ _) | (refine zs ?_; intro _ _))
  rename_i bg _
  refine TL_callN rfl rfl rfl (fun w h => c105 (some ⟨bg, 0, none⟩) 1 w (Sl.of_blk (k := 6) (l := [rc0]) h mm (fun _ _ => rfl) ⟨[], rfl⟩)) ?_
  rintro ⟨⟨fo, fc, fb⟩, lo, lc⟩ hf
  dsimp only at hf ⊢
  repeat' (first | refine rn ?_ | (refine zb ?_; intro _ _) | (refine za ?_; intro _ _) | (refine zs ?_; intro _ _))
  refine TL_convStr rfl Tryz.underlying9 rfl rfl (fun w h => hr.sl h (fun p hp => List.mem_append_right _ (List.mem_cons_of_mem _ (List.mem_append_left _ hp)))) ?_
  rw [show bstr [2] = ⟨#[2]⟩ from rfl]
  refine TL_guard_yes rfl rfl rfl ?_
  refine TL_eql_str rfl rfl rfl ?_
  repeat' (first | refine rn ?_ | (refine zb ?_; intro _ _) | (refine za ?_; intro _ _) | (refine zs ?_; intro _ _))
  refine TL_index 1 rfl rfl rfl (fun w h' => hf.sl h' (fun p hp => List.mem_append_left _ hp)) rfl (by decide) (by decide) ?_
  refine TL_guard_yes rfl rfl rfl ?_
  refine TL_load_eln (u := ((3, 5) : Sp)) (vs := [.int .i64 3, .int .i64 5]) rfl rfl (fun w h' => hf.sl h' (fun p hp => List.mem_append_left _ hp)) rfl rfl ?_
  repeat' (first | refine rn ?_ | (refine zb ?_; intro _ _) | (refine za ?_; intro _ _) | (refine zs ?_; intro _ _))
  exact TQ_ret1 Tryz.results61 (RV.tmp rfl) (fun w' hs => ⟨rfl, hs.below⟩)
end Go.Proofs.YtkpkebpofpcmaaaGreatDoor
