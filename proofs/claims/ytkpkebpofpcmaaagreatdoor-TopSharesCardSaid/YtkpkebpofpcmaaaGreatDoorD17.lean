/- Walks of the package deed: until, At. Walks of the package deed: At. -/
import Derived.Test.YtkpkebpofpcmaaaGreatDoorD15
namespace Go.Proofs.YtkpkebpofpcmaaaGreatDoor
open Go Go.Eng Go.RowKit Go.Proofs
set_option maxHeartbeats 4000000
set_option maxRecDepth 10000
attribute [local irreducible] TL TC TQ

abbrev DoF := Dd → List Pc → (Int → Bool) → BkS
/-- What does a deed of this kind is walked. -/
def DoOK (r : Ro) (doM : DoF) (d : Dd) : Prop := ∃ k1 k2 k3 k4 f, kindsF d.kind = some (kdV k1 k2 k3 k4 f) ∧ EntP Tryz.prog f ∧ ∀ pcs dead, chP (endR r) 0 pcs → chP (endR r) 0 (doM d pcs dead).2.1 ∧
  ∀ (B : Nat) (w0 : World) (G : Hp) (b bm : Nat) (x : Lc) (w : World), HeirsIn [d] G → BkOk x pcs dead → SH B w0 w (bkH r b bm x pcs.length G) →
    Calls Tryz.prog f #[.pointer (some ⟨b, 0, none⟩), .agg (encDd d).toArray] w (EndP B w0 (fun _ : Lc => whyE (doM d pcs dead).1) (fun y => bkH r b bm y (doM d pcs dead).2.1.length G) (fun y => BkOk y (doM d pcs dead).2.1 (doM d pcs dead).2.2))
abbrev PD := List Pc × (Int → Bool)
def stepB (doM : DoF) (d : Dd) (s : PD) : PD := (tryM s.2 d s.1 (doM d s.1 s.2)).2
def runB (doM : DoF) (day : Int) : List Dd → PD → PD
  | [], s => s
  | d :: l, s => runB doM day l (if d.day ≤ day then stepB doM d s else s)
theorem runB_er (doM : DoF) (hd : ∀ d pcs dead, doM (er d) pcs dead = doM d pcs dead) (day : Int) : ∀ (l : List Dd) (s : PD), runB doM day (l.map er) s = runB doM day l s
  | [], s => rfl
  | d :: l, s => by
    rw [List.map_cons, runB, runB, runB_er doM hd day l]
    unfold stepB
    rw [hd]; rfl
def untilM (srt : List Dd → List Dd) (doM : DoF) (r : Ro) (l : List Dd) (day : Int) : Int × PD :=
  if (readM srt r l).1 ≠ 0 then ((readM srt r l).1, [], fun _ => false) else if ¬ In day 0 100000 then (2, [], fun _ => false) else (0, runB doM day (readM srt r l).2 (pcsOf r, fun _ => false))
theorem chH_ch {e : Int} : ∀ {l : List Ho} {now : Int}, chainH e now l → chP e now (l.map toPc)
  | [], now, h => h
  | h :: l, now, hh => by
    obtain ⟨_, h2, h3, h4⟩ := hh
    exact ⟨h2, h3.2.1, chH_ch h4⟩
theorem stepB_ch {r : Ro} {doM : DoF} {d : Dd} (hd : DoOK r doM d) {s : PD} (hs : chP (endR r) 0 s.1) : chP (endR r) 0 (stepB doM d s).1 := by
  obtain ⟨_, _, _, _, _, _, _, h⟩ := hd
  unfold stepB tryM
  split
  · exact hs
  · exact (h s.1 s.2 hs).1
theorem row_small {α : Type} {T : TypeId} {k : Nat} {enc : α → List Value} {ao : Option Addr} {cap : Nat} {ob : Hp} {l : List α} (h : Row T k enc ao cap ob l) : l.length ≤ 9223372036854775807 := by
  rcases h.2 with ⟨_, _, _, rfl⟩ | ⟨b, more, _, _, h1, h2, _⟩
  · simp
  · have : cap ≤ 9223372036854775807 := by simpa [maxLen] using h2
    omega
structure UtQ where
  b : Nat
  bm : Nat
  x : Lc
def utV (e : Int) : Option UtQ → Value
  | none => .tuple #[.pointer none, .int .i64 e]
  | some q => .tuple #[.pointer (some ⟨q.b, 0, none⟩), .int .i64 0]
def utH (r : Ro) (n : Nat) : Option UtQ → Hp
  | none => []
  | some q => bkH r q.b q.bm q.x n []
def utP (e : Int) (s : PD) : Option UtQ → Prop
  | none => e ≠ 0
  | some q => e = 0 ∧ BkOk q.x s.1 s.2 ∧ s.1.length ≤ 100000
theorem endR_eq {r : Ro} (h : OkRo r) : endR r = r.days * 1440 ∧ endR r ≤ 23040 ∧ 1440 ≤ endR r := by
  obtain ⟨h1, h2⟩ := h.1
  have e : endR r = r.days * 1440 := wr_of (by omega)
  rw [e]; omega
theorem c40 (srt srtE : List Dd → List Dd) (doM : DoF) (hder : ∀ d pcs dead, doM (er d) pcs dead = doM d pcs dead) (r : Ro) (l : List Dd) (ao : Option Addr) (c : Nat) (day : Int) (w : World) (hr : Sl w 3 encHo r.ao r.holds) (hrn : Small r.holds.length) (hd : DdsAt w ao l) (hmem : ∀ a, ∀ x ∈ srt a, x ∈ a) (hlen : ∀ a, (srt a).length = a.length)
    (hsort : ∀ (acc : List Dd), onceM [] l = some (acc.map er) → acc.length ≤ 60 → (srt acc).map er = srtE (acc.map er) ∧ ∀ (B : Nat) (w0 : World) (so : Option Addr) (sc : Nat) (ob : Hp) (bs : Nat) (G : Hp) (w' : World), Row 50 9 encDd so sc ob acc → SH B w0 w' (ob ++ G) → (bs, Blk.cells byV 216) ∈ G →
      Calls Tryz.prog 125 #[.slice so acc.length sc, .slice (some ⟨bs, 0, none⟩) 2 2] w' (RetP B w0 (fun _ : Hp => .slice so acc.length sc) (fun o => o ++ G) (fun o => Row 50 9 encDd so sc o (srt acc))))
    (hok : ∀ q : RdQ, ReadP srtE r l q → q.e = 0 → OkRo r → ∀ d ∈ q.l, DoOK r doM d) :
    Calls Tryz.prog 40 #[.agg (encRo r).toArray, .slice ao l.length c, .int .i64 day] w (RetP w.heap.size w (utV (untilM srtE doM r l day).1) (utH r (untilM srtE doM r l day).2.1.length) (utP (untilM srtE doM r l day).1 (untilM srtE doM r l day).2)) := by
  refine enter (args := [.agg (encRo r).toArray, .slice ao l.length c, .int .i64 day]) Tryz.func40 rfl Tryz.ntmps40 rfl (SH.refl _) ?_
  repeat' (first | refine rn ?_ | (refine zb ?_; intro _ _) | (refine za ?_; intro _ _) | (refine zs ?_; intro _ _))
  rename_i b3 _
  refine TL_callN rfl rfl rfl (fun w h => c85 srt srtE r l ao c w (h.sl hr) hrn ⟨h.sl hd.s, fun x hx => h.sl (hd.h x hx), hd.n, hd.hn⟩ hmem hlen (fun acc ha hb => ⟨(hsort acc ha hb).1, (hsort acc ha hb).2 _ _⟩)) ?_
  rintro ⟨qe, ql, qao, qcap, qob, qHB⟩ hq
  have hqe := hq.e
  have hql := hq.l
  have hqr := hq.row
  have hqh := hq.h
  dsimp only at hqe hql hqr hqh ⊢
  repeat' (first | refine rn ?_ | (refine zb ?_; intro _ _) | (refine za ?_; intro _ _) | (refine zs ?_; intro _ _))
  refine TC_cond_dec rfl (fun g1 => ?_) (fun g1 => ?_)
  · repeat' (first | refine rn ?_ | (refine zb ?_; intro _ _) | (refine za ?_; intro _ _) | (refine zs ?_; intro _ _))
    have eu : untilM srtE doM r l day = (qe, [], fun _ => false) := by unfold untilM; rw [if_pos (by rw [← hqe]; exact g1), ← hqe]
    rw [eu]
    exact TQ_ret2 Tryz.results40 (RV.tmp rfl) (RV.tmp rfl) (fun w' hs => ⟨none, g1, rfl, hs.sub (List.nil_sublist _)⟩)
  have h0 : qe = 0 := Classical.not_not.1 g1
  have h0' : (readM srtE r l).1 = 0 := by rw [← hqe]; exact h0
  have hro : OkRo r := by
    refine Classical.byContradiction fun h => ?_
    unfold readM at h0'
    rw [if_pos (by rw [chkRo_no h]; decide), chkRo_no h] at h0'
    cases h0'
  repeat' (first | refine rn ?_ | (refine zb ?_; intro _ _) | (refine za ?_; intro _ _) | (refine zs ?_; intro _ _))
  refine TL_callV rfl rfl rfl (fun w h => c86 day 0 100000 w) ?_
  by_cases hday : In day 0 100000
  rotate_left
  · rw [decide_eq_false hday]
    repeat' (first | refine rn ?_ | (refine zb ?_; intro _ _) | (refine za ?_; intro _ _) | (refine zs ?_; intro _ _))
    have eu : untilM srtE doM r l day = (2, [], fun _ => false) := by unfold untilM; rw [if_neg (by rw [h0']; simp), if_pos hday]
    rw [eu]
    exact TQ_ret2 Tryz.results40 (RV.tmp rfl) (RV.tmp rfl) (fun w' hs => ⟨none, show (2 : Int) ≠ 0 by decide, rfl, hs.sub (List.nil_sublist _)⟩)
  rw [decide_eq_true hday]
  have eu : untilM srtE doM r l day = (0, runB doM day ql (pcsOf r, fun _ => false)) := by unfold untilM; rw [if_neg (by rw [h0']; simp), if_neg (by simpa using hday), ← hql, runB_er doM hder]
  rw [eu]
  repeat' (first | refine rn ?_ | (refine zb ?_; intro _ _) | (refine za ?_; intro _ _) | (refine zs ?_; intro _ _))
  have hhold : r.holds.length ≤ 60 := by have := hro.2.1.2; omega
  refine TL_callN rfl rfl rfl (fun w h => c87 r hhold w (h.sl hr)) ?_
  rintro ⟨b, bm, x0⟩ hx0
  dsimp only at hx0 ⊢
  have hch0 : chP (endR r) 0 (pcsOf r) := chH_ch ((chainB_iff _ _ _).1 hro.2.2)
  have hqlen : ql.length ≤ 9223372036854775807 := row_small hqr
  repeat' (first | refine rn ?_ | (refine zb ?_; intro _ _) | (refine za ?_; intro _ _) | (refine zs ?_; intro _ _))
  refine TC_loop (σ := Nat × Lc × PD) (fun q => q.1 ≤ ql.length ∧ BkOk q.2.1 q.2.2.1 q.2.2.2 ∧ chP (endR r) 0 q.2.2.1 ∧ runB doM day (ql.drop q.1) q.2.2 = runB doM day ql (pcsOf r, fun _ => false)) (fun q => [(2, .int .i64 day), (10, .pointer (some ⟨b, 0, none⟩)), (27, .slice qao ql.length qcap), (28, .int .i64 ql.length), (29, .int .i64 q.1)])
    (fun q => bkH r b bm q.2.1 q.2.2.1.length ((b3, .cells (encRo r) 43) :: (qob ++ qHB))) (fun q => ql.length - q.1) (0, x0, pcsOf r, fun _ => false) ⟨Nat.zero_le _, hx0, hch0, by simp⟩ sb (fun w h => h.perm ?_) (fun q hq => ?_)
  · refine List.Perm.cons _ (List.Perm.cons _ ?_)
    rw [List.append_nil]
    exact List.Perm.append_left x0.ob (List.perm_append_singleton _ _).symm
  obtain ⟨k, x, pcs, dead⟩ := q
  obtain ⟨hk, hbk, hch, hrun⟩ := hq
  dsimp only at hk hbk hch hrun ⊢
  repeat' (first | refine rn ?_ | (refine zb ?_; intro _ _) | (refine za ?_; intro _ _) | (refine zs ?_; intro _ _))
  refine TC_cond_dec rfl (fun g4 => ?_) (fun g4 => ?_)
  · have hlt : k < ql.length := by omega
    obtain ⟨d, hx⟩ : ∃ x, ql[k]? = some x := ⟨_, List.getElem?_eq_getElem hlt⟩
    have hdm : d ∈ ql := List.mem_of_getElem? hx
    have hdr : ql.drop k = d :: ql.drop (k + 1) := by
      rw [List.drop_eq_getElem_cons hlt]
      rw [List.getElem?_eq_getElem hlt] at hx
      cases hx; rfl
    rw [hdr, runB] at hrun
    have hD := hok ⟨qe, ql, qao, qcap, qob, qHB⟩ hq h0 hro d hdm
    have hD' := hD
    obtain ⟨k1, k2, k3, k4, f, hkf, hent, hdo⟩ := hD
    repeat' (first | refine rn ?_ | (refine zb ?_; intro _ _) | (refine za ?_; intro _ _) | (refine zs ?_; intro _ _))
    refine TL_index k rfl rfl rfl (fun w h => hqr.sl h (fun p hp => mem_bk' (List.mem_cons_of_mem _ (List.mem_append_left _ hp)))) rfl hlt (Nat.le_refl _) ?_
    refine TL_load_eln (u := d) rfl rfl (fun w h => hqr.sl h (fun p hp => mem_bk' (List.mem_cons_of_mem _ (List.mem_append_left _ hp)))) hx rfl ?_
    repeat' (first | refine rn ?_ | (refine zb ?_; intro _ _) | (refine za ?_; intro _ _) | (refine zs ?_; intro _ _))
    rename_i b12 _
    refine TC_cond_dec rfl (fun g5 => ?_) (fun g5 => ?_)
    · rw [if_pos g5] at hrun
      repeat' (first | refine rn ?_ | (refine zb ?_; intro _ _) | (refine za ?_; intro _ _) | (refine zs ?_; intro _ _))
      have hch1 : chP (endR r) 0 (stepB doM d (pcs, dead)).1 := stepB_ch hD' hch
      refine TL_call rfl rfl rfl (fun _ : Lc => .int .u8 (tryM dead d pcs (doM d pcs dead)).1) (fun y => bkH r b bm y (stepB doM d (pcs, dead)).1.length ((b12, .cells (encDd d) 50) :: (b3, .cells (encRo r) 43) :: (qob ++ qHB))) (fun y => BkOk y (stepB doM d (pcs, dead)).1 (stepB doM d (pcs, dead)).2) (fun w h => c88 r b bm x pcs dead d hbk k1 k2 k3 k4 f hkf (doM d pcs dead) (fun a1 a2 w' h' => (hdo pcs dead hch).2 _ _ _ b bm x w' ?_ hbk h') w (h.perm pm_in1)) (fun y hy => ?_)
      · intro z hz
        rw [List.mem_singleton.1 hz]
        obtain ⟨oz, z1, z2, z3⟩ := hqh d hdm
        exact ⟨oz, z1, fun p hp => List.mem_cons_of_mem _ (List.mem_cons_of_mem _ (List.mem_cons_of_mem _ (List.mem_cons_of_mem _ (List.mem_append_right _ (z2 p hp))))), z3⟩
      repeat' (first | refine rn ?_ | (refine zb ?_; intro _ _) | (refine za ?_; intro _ _) | (refine zs ?_; intro _ _))
      exact TQ_round (k + 1, y, stepB doM d (pcs, dead)) ⟨by omega, hy, hch1, hrun⟩ (by simp only; omega) sb (fun w h => h.sub (List.Sublist.cons_cons _ (List.Sublist.cons_cons _ (List.Sublist.append_left (List.sublist_cons_self _ _) _))))
    · rw [if_neg g5] at hrun
      repeat' (first | refine rn ?_ | (refine zb ?_; intro _ _) | (refine za ?_; intro _ _) | (refine zs ?_; intro _ _))
      exact TQ_round (k + 1, x, pcs, dead) ⟨by omega, hbk, hch, hrun⟩ (by simp only; omega) sb (fun w h => h.sub (List.sublist_cons_self _ _))
  · have hkl : k = ql.length := by omega
    subst hkl
    rw [List.drop_length, runB] at hrun
    rw [← hrun]
    repeat' (first | refine rn ?_ | (refine zb ?_; intro _ _) | (refine za ?_; intro _ _) | (refine zs ?_; intro _ _))
    exact TQ_ret2 Tryz.results40 (RV.tmp rfl) (RV.tmp rfl) (fun w' hs => ⟨some ⟨b, bm, x⟩, ⟨rfl, hbk, by have := chP_len hch; have := (endR_eq hro).2.1; dsimp only; omega⟩, rfl, hs.sub (List.Sublist.cons_cons _ (List.Sublist.cons_cons _ (List.Sublist.append_left (List.nil_sublist _) _)))⟩)
end Go.Proofs.YtkpkebpofpcmaaaGreatDoor

namespace Go.Proofs.YtkpkebpofpcmaaaGreatDoor
open Go Go.Eng Go.RowKit Go.Proofs
set_option maxHeartbeats 4000000
set_option maxRecDepth 10000
attribute [local irreducible] TL TC TQ

def atM (u : Int × PD) (day m : Int) : Int × Int × Int := if u.1 ≠ 0 then (0, 0, u.1) else match u.2.1.find? (hasB m) with
  | none => (0, 0, 2)
  | some p => (p.owner, userP p day, 0)
theorem find_fidx {α : Type} (p : α → Bool) (l : List α) : (fidx p l = -1 ∧ l.find? p = none) ∨ ∃ (i : Nat) (x : α), fidx p l = i ∧ l[i]? = some x ∧ l.find? p = some x := by
  induction l with
  | nil => exact .inl ⟨rfl, rfl⟩
  | cons a l ih =>
    unfold fidx
    by_cases ha : p a = true
    · rw [if_pos ha]; exact .inr ⟨0, a, rfl, rfl, by simp [ha]⟩
    · rw [if_neg ha]
      rcases ih with ⟨h1, h2⟩ | ⟨i, x, h1, h2, h3⟩
      · rw [if_pos (by omega)]; exact .inl ⟨rfl, by simp [ha, h2]⟩
      · rw [if_neg (by omega)]; exact .inr ⟨i + 1, x, by omega, by simpa using h2, by simp [ha, h3]⟩
theorem c13 (u : Int × PD) (r : Ro) (l : List Dd) (ao : Option Addr) (c : Nat) (day m : Int) (w : World)
    (hU : ∀ w', Below w.heap.size w w' → Calls Tryz.prog 40 #[.agg (encRo r).toArray, .slice ao l.length c, .int .i64 day] w' (RetP w'.heap.size w' (utV u.1) (utH r u.2.1.length) (utP u.1 u.2))) :
    Calls Tryz.prog 13 #[.agg (encRo r).toArray, .slice ao l.length c, .int .i64 day, .int .i64 m] w (RetV w (.tuple #[.int .i64 (atM u day m).1, .int .i64 (atM u day m).2.1, .int .i64 (atM u day m).2.2])) := by
  refine enter (args := [.agg (encRo r).toArray, .slice ao l.length c, .int .i64 day, .int .i64 m]) Tryz.func13 rfl Tryz.ntmps13 rfl (SH.refl _) ?_
  repeat' (first | refine rn ?_ | (refine zb ?_; intro _ _) | (refine za ?_; intro _ _) | (refine zs ?_; intro _ _))
  rename_i b4 _ b7 _
  refine TL_callN rfl rfl rfl (fun w h => hU w h.below) ?_
  rintro (_ | ⟨b, bm, x⟩) hq
  · have ea : atM u day m = (0, 0, u.1) := by unfold atM; exact if_pos (show u.1 ≠ 0 from hq)
    rw [ea]
    dsimp only [utV, utH]
    repeat' (first | refine rn ?_ | (refine zb ?_; intro _ _) | (refine za ?_; intro _ _) | (refine zs ?_; intro _ _))
    refine TC_cond_dec rfl (fun g1 => ?_) (fun g1 => absurd hq g1)
    repeat' (first | refine rn ?_ | (refine zb ?_; intro _ _) | (refine za ?_; intro _ _) | (refine zs ?_; intro _ _))
    exact TQ_ret3 Tryz.results13 (RV.tmp rfl) (RV.tmp rfl) (RV.tmp rfl) (fun w' hs => ⟨rfl, hs.below⟩)
  · obtain ⟨h0, hbk, hsl⟩ := hq
    have hsm := row_small hbk.row
    have hsmall : u.2.1.length ≤ 9223372036854775807 := row_small hbk.row
    dsimp only [utV, utH]
    repeat' (first | refine rn ?_ | (refine zb ?_; intro _ _) | (refine za ?_; intro _ _) | (refine zs ?_; intro _ _) | (refine nk ?_))
    refine TL_callV rfl rfl rfl (fun w h => c41 (hasB m) 42 [.pointer (some ⟨b7, 0, none⟩)] u.2.1 x.ao x.cap ?_ w (hbk.row.sl h (fun p hp => List.mem_append_left _ (mem_bk0 hp))) (fun p _ w' hb => c42 p m b7 w' ((Sl.of_blk (enc := encI) (k := 1) (l := [m]) h (List.mem_append_right _ (List.Mem.head _)) (fun _ _ => rfl) ⟨[], rfl⟩).mono hb))) ?_
    · unfold Small; omega
    rcases find_fidx (hasB m) u.2.1 with ⟨h1, h2⟩ | ⟨i, p, h1, h2, h3⟩
    · have ea : atM u day m = (0, 0, 2) := by unfold atM; rw [if_neg (by rw [h0]; simp), h2]
      rw [h1, ea]
      repeat' (first | refine rn ?_ | (refine zb ?_; intro _ _) | (refine za ?_; intro _ _) | (refine zs ?_; intro _ _))
      exact TQ_ret3 Tryz.results13 (RV.tmp rfl) (RV.tmp rfl) (RV.tmp rfl) (fun w' hs => ⟨rfl, hs.below⟩)
    · have ea : atM u day m = (p.owner, userP p day, 0) := by unfold atM; rw [if_neg (by rw [h0]; simp), h3]
      have hlt : i < u.2.1.length := (List.getElem?_eq_some_iff.1 h2).1
      have hne : u.2.1 ≠ [] := fun e => by rw [e] at h2; simp at h2
      rw [h1, ea]
      repeat' (first | refine rn ?_ | (refine zb ?_; intro _ _) | (refine za ?_; intro _ _) | (refine zs ?_; intro _ _))
      apply TC_draw 17; kernel_rfl; exact Tryz.mixed
      · (refine' pv ?_; rotate_left)
        (refine' PG.val rfl rfl (by intro _X; refine TL_nilCheck rfl rfl ?_; exact qe) ?_; rotate_left)
        iterate 3 (refine' pv ?_; rotate_left)
        (refine' PG.val rfl rfl (by intro _X; refine TL_index i rfl rfl rfl (fun w h => hbk.row.sl h (fun p hp => by repeat (first | exact List.mem_append_left _ (mem_bk0 hp) | apply List.mem_append_right))) rfl hlt (Nat.le_refl _) ?_; exact qe) ?_; rotate_left)
        (refine' PG.val rfl rfl (by intro _X; refine TL_fieldAddr_el rfl rfl (fun w h => hbk.row.sl h (fun p hp => by repeat (first | exact List.mem_append_left _ (mem_bk0 hp) | apply List.mem_append_right))) hne ?_; exact qe) ?_; rotate_left)
        (refine' PG.val rfl rfl (by intro _X; refine TL_load_el1 (u := p) rfl rfl (fun w h => hbk.row.sl h (fun p hp => by repeat (first | exact List.mem_append_left _ (mem_bk0 hp) | apply List.mem_append_right))) h2 rfl ?_; exact qe) ?_; rotate_left)
        (refine' pv ?_; rotate_left)
        (refine' PG.val rfl rfl (by intro _X; refine TL_nilCheck rfl rfl ?_; exact qe) ?_; rotate_left)
        iterate 3 (refine' pv ?_; rotate_left)
        (refine' PG.val rfl rfl (by intro _X; refine TL_index i rfl rfl rfl (fun w h => hbk.row.sl h (fun p hp => by repeat (first | exact List.mem_append_left _ (mem_bk0 hp) | apply List.mem_append_right))) rfl hlt (Nat.le_refl _) ?_; exact qe) ?_; rotate_left)
        (refine' PG.val rfl rfl (by intro _X; refine TL_load_eln (u := p) rfl rfl (fun w h => hbk.row.sl h (fun p hp => by repeat (first | exact List.mem_append_left _ (mem_bk0 hp) | apply List.mem_append_right))) h2 rfl ?_; exact qe) ?_; rotate_left)
        (refine' pv ?_; rotate_left)
        (refine' PG.val rfl rfl (by intro _X; refine TL_callV rfl rfl rfl (fun w h => c43 p day w) ?_; exact qe) ?_; rotate_left)
        exact PG.nil
      change TL _ _ _ _ _ _ _ _ _ _ _
      repeat' (first | refine rn ?_ | (refine zb ?_; intro _ _) | (refine za ?_; intro _ _) | (refine zs ?_; intro _ _))
      exact TQ_ret3 Tryz.results13 (RV.tmp rfl) (RV.tmp rfl) (RV.tmp rfl) (fun w' hs => ⟨rfl, hs.below⟩)
end Go.Proofs.YtkpkebpofpcmaaaGreatDoor
