/- Walks of the package deed: read. -/
import Derived.Test.YtkpkebpofpcmaaaGreatDoorD14
namespace Go.Proofs.YtkpkebpofpcmaaaGreatDoor
open Go Go.Eng Go.RowKit Go.Proofs
set_option maxHeartbeats 4000000
set_option maxRecDepth 10000
attribute [local irreducible] TL TC TQ

/-- A deed without the place of its heirs. -/
def er (x : Dd) : Dd := { x with ao := none, cap := 0 }
def seek (l : List Dd) (k : Int) : Option Dd := l.find? fun y => decide (y.id = k)
theorem seek_map (l : List Dd) (k : Int) : seek (l.map er) k = (seek l k).map er := by
  unfold seek
  rw [List.find?_map]; rfl
theorem seek_some {l : List Dd} {k : Int} {y : Dd} (h : seek l k = some y) : y ∈ l ∧ y.id = k := ⟨List.mem_of_find?_eq_some h, by simpa using List.find?_some h⟩
theorem seek_snoc (l : List Dd) (x : Dd) (k : Int) : seek (l ++ [x]) k = if (seek l k).isSome then seek l k else if x.id = k then some x else none := by
  unfold seek
  rw [List.find?_append]
  cases h : l.find? (fun y => decide (y.id = k)) with
  | some y => rfl
  | none =>
    simp only [Option.none_or, Option.isSome_none, Bool.false_eq_true, if_false, List.find?_singleton]
    by_cases e : x.id = k <;> simp [e]
/-- The deeds, each one once; none if two with one number are not alike. -/
def onceM (acc : List Dd) : List Dd → Option (List Dd)
  | [] => some acc
  | x :: l => match seek acc x.id with
    | some y => if alikeB x y then onceM acc l else none
    | none => onceM (acc ++ [er x]) l
def knownF (acc : List Dd) : Int → Option Value := fun k => (seek acc k).map fun y => .agg (encDd y).toArray
theorem knownF_snoc (acc : List Dd) (x : Dd) (h : seek acc x.id = none) : fupd (knownF acc) x.id (.agg (encDd x).toArray) = knownF (acc ++ [x]) := by
  funext k
  unfold fupd knownF
  rw [seek_snoc]
  by_cases e : k = x.id
  · subst e; rw [if_pos rfl, h]; simp
  · rw [if_neg e]
    cases h2 : seek acc k with
    | some y => rfl
    | none =>
      have h3 : ¬ x.id = k := fun h => e h.symm
      simp [h3]
theorem zero50 (w : World) : (zeroValue 50).run Tryz.prog w = .ok (.agg #[.int .i64 0, .int .i64 0, .int .u8 0, .int .i64 0, .int .i64 0, .int .i64 0, .int .i64 0, .int .i64 0, .slice none 0 0]) w := by
  obtain ⟨i, hi, hz⟩ := Option.map_eq_some_iff.1 (show (Tryz.prog.info? 50).map (fun i => i.zero) = some (some (Value.agg #[.int .i64 0, .int .i64 0, .int .u8 0, .int .i64 0, .int .i64 0, .int .i64 0, .int .i64 0, .int .i64 0, .slice none 0 0])) by kernel_rfl)
  simp [zeroValue, typeInfo, hi, hz]
def dd0 : Dd := ⟨0, 0, 0, 0, 0, (0, 0), 0, [], none, 0⟩
/-- Deeds that lie in some blocks, their heirs too. -/
def HeirsIn (l : List Dd) (HB : Hp) : Prop := ∀ x ∈ l, ∃ ob : Hp, RowE 214 2 encSp x.ao x.cap ob x.heirs ∧ (∀ p ∈ ob, p ∈ HB) ∧ x.heirs.length ≤ 8
structure RdQ where
  e : Int
  l : List Dd
  ao : Option Addr
  cap : Nat
  ob : Hp
  HB : Hp
/-- What read comes to: an error, and the deeds in order. -/
def readM (srt : List Dd → List Dd) (r : Ro) (l : List Dd) : Int × List Dd :=
  if chkRo r ≠ 0 then (chkRo r, []) else if 60 < l.length then (4, []) else if l.any (fun x => !validB r x) then (41, []) else match onceM [] l with
  | none => (42, [])
  | some acc => (0, srt acc)
structure ReadP (srt : List Dd → List Dd) (r : Ro) (l : List Dd) (q : RdQ) : Prop where
  e : q.e = (readM srt r l).1
  l : q.l.map er = (readM srt r l).2
  row : Row 50 9 encDd q.ao q.cap q.ob q.l
  h : HeirsIn q.l q.HB
structure DdsAt (w : World) (ao : Option Addr) (l : List Dd) : Prop where
  s : Sl w 9 encDd ao l
  h : ∀ x ∈ l, Sl w 2 encSp x.ao x.heirs
  n : Small l.length
  hn : ∀ x ∈ l, Small x.heirs.length
theorem heirsB_small (r : Ro) (x : Dd) (h : validB r x = true) : x.heirs.length ≤ 8 := by
  unfold validB at h
  cases hk : kfl x.kind with
  | none => rw [hk] at h; cases h
  | some q =>
    rw [hk] at h
    have hh : heV x q.2.2.2.1 = true := by
      simp only [Bool.and_eq_true, flagB] at h
      exact h.2.2.2.2
    unfold heV at hh
    split at hh
    · unfold inhB at hh
      simp only [Bool.and_eq_true, decide_eq_true_eq] at hh
      have := hh.2.2
      omega
    · simp at hh
      simp [hh]
theorem pm_bk3 {a b c : Nat × Blk} {ob R : Hp} : (a :: b :: c :: (ob ++ R)).Perm (ob ++ (a :: b :: c :: R)) := (List.Perm.cons a pm_bk).trans List.perm_middle.symm
theorem c85 (srt srtE : List Dd → List Dd) (r : Ro) (l : List Dd) (ao : Option Addr) (c : Nat) (w : World) (hr : Sl w 3 encHo r.ao r.holds) (hrn : Small r.holds.length) (hd : DdsAt w ao l) (hmem : ∀ a, ∀ x ∈ srt a, x ∈ a) (hlen : ∀ a, (srt a).length = a.length)
    (hsort : ∀ (acc : List Dd), onceM [] l = some (acc.map er) → acc.length ≤ 60 → (srt acc).map er = srtE (acc.map er) ∧ ∀ (so : Option Addr) (sc : Nat) (ob : Hp) (bs : Nat) (G : Hp) (w' : World), Row 50 9 encDd so sc ob acc → SH w.heap.size w w' (ob ++ G) → (bs, Blk.cells byV 216) ∈ G →
      Calls Tryz.prog 125 #[.slice so acc.length sc, .slice (some ⟨bs, 0, none⟩) 2 2] w' (RetP w.heap.size w (fun _ : Hp => .slice so acc.length sc) (fun o => o ++ G) (fun o => Row 50 9 encDd so sc o (srt acc)))) :
    Calls Tryz.prog 85 #[.agg (encRo r).toArray, .slice ao l.length c] w (RetP w.heap.size w (fun q : RdQ => .tuple #[.slice q.ao q.l.length q.cap, .int .i64 q.e]) (fun q => q.ob ++ q.HB) (fun q => ReadP srtE r l q)) := by
  have hn := hd.n
  unfold Small at hn
  have bad : ∀ e, (readM srtE r l) = (e, []) → ReadP srtE r l ⟨e, [], none, 0, [], []⟩ := fun e he => ⟨by rw [he], by rw [he]; rfl, Row.nil _ _ _, fun x hx => by cases hx⟩
  refine enter (args := [.agg (encRo r).toArray, .slice ao l.length c]) Tryz.func85 rfl Tryz.ntmps85 rfl (SH.refl _) ?_
  repeat' (first | refine rn ?_ | (refine zb ?_; intro _ _) | (refine za ?_; intro _ _) | (refine zs ?_; intro _ _))
  rename_i b2 _
  refine TL_callV rfl rfl rfl (fun w h => c119 r w (h.sl hr) hrn) ?_
  repeat' (first | refine rn ?_ | (refine zb ?_; intro _ _) | (refine za ?_; intro _ _) | (refine zs ?_; intro _ _))
  refine TC_cond_dec rfl (fun g1 => ?_) (fun g1 => ?_)
  · repeat' (first | refine rn ?_ | (refine zb ?_; intro _ _) | (refine za ?_; intro _ _) | (refine zs ?_; intro _ _))
    exact TQ_ret2 Tryz.results85 (RV.tmp rfl) (RV.tmp rfl) (fun w' hs => ⟨_, bad (chkRo r) (by unfold readM; rw [if_pos g1]), rfl, hs.sub (List.nil_sublist _)⟩)
  repeat' (first | refine rn ?_ | (refine zb ?_; intro _ _) | (refine za ?_; intro _ _) | (refine zs ?_; intro _ _))
  refine TC_cond_dec rfl (fun g2 => ?_) (fun g2 => ?_)
  · repeat' (first | refine rn ?_ | (refine zb ?_; intro _ _) | (refine za ?_; intro _ _) | (refine zs ?_; intro _ _))
    exact TQ_ret2 Tryz.results85 (RV.tmp rfl) (RV.tmp rfl) (fun w' hs => ⟨_, bad 4 (by unfold readM; rw [if_neg g1, if_pos (by omega)]), rfl, hs.sub (List.nil_sublist _)⟩)
  repeat' (first | refine rn ?_ | (refine zb ?_; intro _ _) | (refine za ?_; intro _ _) | (refine zs ?_; intro _ _))
  refine TL_callV rfl rfl rfl (fun w h => c120 (fun x => !validB r x) 121 [.pointer (some ⟨b2, 0, none⟩)] l ao c hd.n w (h.sl hd.s) (fun x hx w' hb => c121 r x b2 (hd.hn x hx) w' ((h.sl (hd.h x hx)).mono hb) ((Sl.of_blk (enc := encRo) (k := 2) (l := [r]) h (List.Mem.head _) (fun _ _ => rfl) ⟨[], rfl⟩).mono hb))) ?_
  repeat' (first | refine rn ?_ | (refine zb ?_; intro _ _) | (refine za ?_; intro _ _) | (refine zs ?_; intro _ _))
  refine TC_cond rfl (fun g3 => ?_) (fun g3 => ?_)
  · repeat' (first | refine rn ?_ | (refine zb ?_; intro _ _) | (refine za ?_; intro _ _) | (refine zs ?_; intro _ _))
    exact TQ_ret2 Tryz.results85 (RV.tmp rfl) (RV.tmp rfl) (fun w' hs => ⟨_, bad 41 (by unfold readM; rw [if_neg g1, if_neg (by omega), if_pos g3]), rfl, hs.sub (List.nil_sublist _)⟩)
  have hval : ∀ x ∈ l, validB r x = true := fun x hx => by
    have := List.any_eq_false.1 g3 x hx
    simpa using this
  repeat' (first | refine rn ?_ | (refine zb ?_; intro _ _) | (refine za ?_; intro _ _) | (refine zs ?_; intro _ _))
  refine TL_makeMap rfl (fun bm _ => ?_)
  repeat' (first | refine rn ?_ | (refine zb ?_; intro _ _) | (refine za ?_; intro _ _) | (refine zs ?_; intro _ _))
  refine TC_loop (σ := Nat × RdQ × Array MapEntry × Nat) (fun q => q.1 ≤ l.length ∧ onceM (q.2.1.l.map er) (l.drop q.1) = onceM [] l ∧ q.2.1.l.length ≤ q.1 ∧ Row 50 9 encDd q.2.1.ao q.2.1.cap q.2.1.ob q.2.1.l ∧ HeirsIn q.2.1.l q.2.1.HB ∧ MR .i64 q.2.2.1.toList (knownF q.2.1.l)) (fun q => [(4, .slice none 0 0), (5, .int .i64 0), (7, .map (some bm)), (8, .slice q.2.1.ao q.2.1.l.length q.2.1.cap), (25, .slice ao l.length c), (26, .int .i64 l.length), (27, .int .i64 q.1)])
    (fun q => (b2, .cells (encRo r) 43) :: (bm, .obj (.map q.2.2.1 q.2.2.2)) :: (q.2.1.ob ++ q.2.1.HB)) (fun q => l.length - q.1) (0, ⟨0, [], none, 0, [], []⟩, #[], 0) ⟨Nat.zero_le _, rfl, Nat.le_refl _, Row.nil _ _ _, fun x hx => (by cases hx), MR.nil⟩ sb (fun w h => h.perm (List.Perm.swap _ _ _)) (fun q hq => ?_)
  obtain ⟨k, ⟨qe, acc, so, sc, ob, HB⟩, es, clk⟩ := q
  obtain ⟨hk, honce, hal, hrow, hh, hmr⟩ := hq
  dsimp only at hk honce hal hrow hh hmr ⊢
  repeat' (first | refine rn ?_ | (refine zb ?_; intro _ _) | (refine za ?_; intro _ _) | (refine zs ?_; intro _ _))
  refine TC_cond_dec rfl (fun g4 => ?_) (fun g4 => ?_)
  · have hlt : k < l.length := by omega
    obtain ⟨x, hx⟩ : ∃ x, l[k]? = some x := ⟨_, List.getElem?_eq_getElem hlt⟩
    have hxm : x ∈ l := List.mem_of_getElem? hx
    have hdr : l.drop k = x :: l.drop (k + 1) := by
      rw [List.drop_eq_getElem_cons hlt]
      rw [List.getElem?_eq_getElem hlt] at hx
      cases hx; rfl
    rw [hdr] at honce
    repeat' (first | refine rn ?_ | (refine zb ?_; intro _ _) | (refine za ?_; intro _ _) | (refine zs ?_; intro _ _))
    refine TL_index k rfl rfl rfl (fun w h => h.sl hd.s) rfl hlt (Nat.le_refl _) ?_
    refine TL_load_eln (u := x) rfl rfl (fun w h => h.sl hd.s) hx rfl ?_
    repeat' (first | refine rn ?_ | (refine zb ?_; intro _ _) | (refine za ?_; intro _ _) | (refine zs ?_; intro _ _))
    rename_i b10 _
    cases hsk : seek acc x.id with
    | some y =>
      obtain ⟨hya, hyid⟩ := seek_some hsk
      have hsk' : seek (acc.map er) x.id = some (er y) := by rw [seek_map, hsk]; rfl
      have ho : onceM (acc.map er) (x :: l.drop (k + 1)) = if alikeB x y then onceM (acc.map er) (l.drop (k + 1)) else none := by
        rw [onceM, hsk']; rfl
      rw [ho] at honce
      refine TL_lookupOk (f := knownF acc) (v := .agg (encDd y).toArray) (p := true) rfl rfl rfl mm hmr zero50 (by unfold knownF; rw [hsk]; rfl) (by unfold knownF; rw [hsk]; rfl) ?_
      repeat' (first | refine rn ?_ | (refine zb ?_; intro _ _) | (refine za ?_; intro _ _) | (refine zs ?_; intro _ _))
      obtain ⟨oby, hy1, hy2, hy3⟩ := hh y hya
      refine TL_callV rfl rfl rfl (fun w h => c123 x y (hd.hn x hxm) (by unfold Small; omega) w (h.sl (hd.h x hxm)) (hy1.sl h (fun p hp => by repeat (first | exact List.mem_append_right _ (hy2 p hp) | apply List.mem_cons_of_mem)))) ?_
      repeat' (first | refine rn ?_ | (refine zb ?_; intro _ _) | (refine za ?_; intro _ _) | (refine zs ?_; intro _ _))
      refine TC_cond rfl (fun g5 => ?_) (fun g5 => ?_)
      · have ha : alikeB x y = false := by unfold alikeB; exact decide_eq_false (of_decide_eq_true g5)
        rw [ha] at honce
        repeat' (first | refine rn ?_ | (refine zb ?_; intro _ _) | (refine za ?_; intro _ _) | (refine zs ?_; intro _ _))
        exact TQ_ret2 Tryz.results85 (RV.tmp rfl) (RV.tmp rfl) (fun w' hs => ⟨_, bad 42 (by unfold readM; rw [if_neg g1, if_neg (by omega), if_neg (by rw [g3]; simp), ← honce]; rfl), rfl, hs.sub (List.nil_sublist _)⟩)
      · have ha : alikeB x y = true := by unfold alikeB; exact decide_eq_true (Classical.not_not.1 (of_decide_eq_false g5))
        rw [ha] at honce
        repeat' (first | refine rn ?_ | (refine zb ?_; intro _ _) | (refine za ?_; intro _ _) | (refine zs ?_; intro _ _))
        exact TQ_round (k + 1, ⟨qe, acc, so, sc, ob, HB⟩, es, clk) ⟨by omega, honce, by simp only; omega, hrow, hh, hmr⟩ (by simp only; omega) sb (fun w h => h.sub su)
    | none =>
      have hsk' : seek (acc.map er) x.id = none := by rw [seek_map, hsk]; rfl
      have ho : onceM (acc.map er) (x :: l.drop (k + 1)) = onceM (acc.map er ++ [er x]) (l.drop (k + 1)) := by
        rw [onceM, hsk']
      rw [ho] at honce
      have hx8 := heirsB_small r x (hval x hxm)
      refine TL_lookupOk (f := knownF acc) (v := .agg (encDd dd0).toArray) (p := false) rfl rfl rfl mm hmr zero50 (by unfold knownF; rw [hsk]; rfl) (by unfold knownF; rw [hsk]; rfl) ?_
      repeat' (first | refine rn ?_ | (refine zb ?_; intro _ _) | (refine za ?_; intro _ _) | (refine zs ?_; intro _ _))
      rename_i b11 _
      refine TL_callN rfl rfl rfl (fun w h => c124 x.heirs x.ao x.cap (by omega) w (h.sl (hd.h x hxm))) ?_
      rintro ⟨ho', hc', obc⟩ hrc
      dsimp only at hrc ⊢
      repeat' (first | refine rn ?_ | (refine zb ?_; intro _ _) | (refine za ?_; intro _ _) | (refine zs ?_; intro _ _))
      have hmr' := knownF_snoc acc { x with ao := ho', cap := hc' } hsk
      refine TL_mapSet (v := .agg (encDd { x with ao := ho', cap := hc' }).toArray) (.inl rfl) rfl rfl rfl (fun _ _ => up) hmr (fun es2 clk2 hmr2 => ?_)
      rw [show fupd (knownF acc) x.id (.agg (encDd { x with ao := ho', cap := hc' }).toArray) = knownF (acc ++ [{ x with ao := ho', cap := hc' }]) from hmr'] at hmr2
      repeat' (first | refine rn ?_ | (refine zb ?_; intro _ _) | (refine za ?_; intro _ _) | (refine zs ?_; intro _ _))
      refine TL_append (l := acc) (l2 := [{ x with ao := ho', cap := hc' }]) (enc := encDd) (G := _) rfl (by rfl) rfl rfl rfl rfl rfl hrow (pm_cons (pmA (pm_cons (pm_cons (pm_cons (pm_cons pm_here)))))) (fun w h => Sl.of_blk h (List.Mem.head _) (fun _ _ => rfl) ⟨[], by rfl⟩) (fun u _ => rfl) (by simp only [List.length_singleton]; omega) (by simp only [List.length_singleton, maxLen]; omega) (fun so' sc' ob' hrow' => ?_)
      repeat' (first | refine rn ?_ | (refine zb ?_; intro _ _) | (refine za ?_; intro _ _) | (refine zs ?_; intro _ _))
      have hx' : HeirsIn (acc ++ [{ x with ao := ho', cap := hc' }]) (obc ++ HB) := fun z hz => by
        rcases List.mem_append.1 hz with hz | hz
        · obtain ⟨oz, z1, z2, z3⟩ := hh z hz
          exact ⟨oz, z1, fun p hp => List.mem_append_right _ (z2 p hp), z3⟩
        · rw [List.mem_singleton.1 hz]
          exact ⟨obc, hrc, fun p hp => List.mem_append_left _ hp, hx8⟩
      refine TQ_round (k + 1, ⟨qe, acc ++ [{ x with ao := ho', cap := hc' }], so', sc', ob', obc ++ HB⟩, es2, clk2) ⟨by omega, by rw [← honce, List.map_append]; rfl, by simp only [List.length_append, List.length_singleton]; omega, hrow', hx', hmr2⟩ (by simp only; omega) sb (fun w h => ?_)
      refine SH.perm (h.sub (H' := ob' ++ (obc ++ ((b2, .cells (encRo r) 43) :: (bm, .obj (.map es2 clk2)) :: HB))) ?_) ?_
      · exact List.Sublist.append (List.Sublist.refl _) (List.Sublist.cons _ (List.Sublist.append (List.Sublist.refl _) (List.Sublist.cons _ (List.Sublist.cons _ (List.Sublist.refl _)))))
      · exact pm_bk.trans (List.Perm.append_left ob' pm_bk)
  · have hkl : k = l.length := by omega
    subst hkl
    rw [List.drop_length] at honce
    have honce' : onceM [] l = some (acc.map er) := honce.symm
    obtain ⟨hs1, hs2⟩ := hsort acc honce' (by omega)
    repeat' (first | refine rn ?_ | (refine zb ?_; intro _ _) | (refine za ?_; intro _ _) | (refine zs ?_; intro _ _))
    rename_i bs _
    refine TL_call rfl rfl rfl (fun _ : Hp => .slice so acc.length sc) (fun o => o ++ ((bs, .cells byV 216) :: (b2, .cells (encRo r) 43) :: (bm, .obj (.map es clk)) :: HB)) (fun o => Row 50 9 encDd so sc o (srt acc)) (fun w h => hs2 so sc ob bs _ w hrow (h.perm pm_bk3.symm) (List.Mem.head _)) (fun o ho => ?_)
    repeat' (first | refine rn ?_ | (refine zb ?_; intro _ _) | (refine za ?_; intro _ _) | (refine zs ?_; intro _ _))
    exact TQ_ret2 Tryz.results85 (RV.tmp rfl) (RV.tmp rfl) (fun w' hs => ⟨⟨0, srt acc, so, sc, o, HB⟩, ⟨by unfold readM; rw [if_neg g1, if_neg (by omega), if_neg (by rw [g3]; simp), honce'], by unfold readM; rw [if_neg g1, if_neg (by omega), if_neg (by rw [g3]; simp), honce']; exact hs1, ho, fun x hx => hh x (hmem acc x hx)⟩, by show _ = Ending.returned (Value.tuple #[.slice so (srt acc).length sc, .int .i64 0]); rw [hlen acc], hs.sub (List.Sublist.append (List.Sublist.refl _) (List.Sublist.cons _ (List.Sublist.cons _ (List.Sublist.cons _ (List.Sublist.refl _)))))⟩)
end Go.Proofs.YtkpkebpofpcmaaaGreatDoor
