/- Walks: a pipe; a turn of two changes; the chapters' examples. -/
import Derived.Test.YtkpkebpofpcmaaaGreatDoorC7
import Derived.Test.YtkpkebpofpcmaaaGreatDoorR5
import Derived.Test.YtkpkebpofpcmaaaGreatDoorD20
namespace Go.Eng
open Go Go.RowKit
theorem made_self (z : List Value) : madeCells z.toArray (1 * z.length) = z.toArray := by
  apply Array.ext'
  unfold madeCells
  rw [Array.toList_map, Array.toList_range, Nat.one_mul]
  apply List.ext_getElem
  · simp
  · intro i h1 h2
    simp at h1
    simp [Nat.mod_eq_of_lt h1, h1]
section
variable {r : Option Nat} {P : Program} {Q : Exit → Act → World → Prop} {N : Nat} {D : List Deferred} {B : Nat} {w0 : World} {L : Env} {H : Hp} {ops : Array Oper} {rest : List Oper}
/-- 'make([]T, 1)'. -/
theorem TL_makeSliceOne {d : Nat} {ty : TypeId} {pos : String} {aft : Array Edge} {t e : TypeId} {x y : Operand} {by_ sz : Nat} {z : List Value} {k1 k2 : IntKind} {ag : Bool} (hd : Nat.blt d N = true) [hu : SlcP P t e] [he : TyP P e sz ag z] [hby : BytP P e by_]
    (hx : ev L x = some (.int k1 1)) (hy : ev L y = some (.int k2 1)) (hzl : z.length = sz) (hb : by_ ≤ 281474976710656)
    (k : ∀ b, B ≤ b → TL r P Q N D B w0 ((d, .slice (some ⟨b, 0, none⟩) 1 1) :: L) ((b, .cells z e) :: H) ops rest) : TL r P Q N D B w0 L H ops (⟨some d, .makeSlice t x y, ty, pos, aft, none⟩ :: rest) :=
  TL_valw (by simp) hd (fun b : Nat => .slice (some ⟨b, 0, none⟩) 1 1) (fun b => (b, .cells z e) :: H) (fun b => B ≤ b) (fun a w hf hs => ⟨w.heap.size, w.alloc (Blk.cells z e).toObj, hs.hB, by
    obtain ⟨i, v, hi, hsz, hzz, hcc⟩ := he.info
    have hbi : i.bytes = by_ := by rw [← hby.b]; simp [Program.bytesOf, hi]
    have hbb : (i.bytes : Int) * 1 ≤ 281474976710656 := by rw [hbi]; omega
    have h := run_make (P := P) w t e i v hu.u hi hzz k1 k2 1 1 (by omega) (Int.le_refl _) hbb (by omega)
    rw [hsz, hcc, ← hzl, show Int.toNat 1 = 1 from rfl, made_self] at h
    exact ⟨by simp [execOp, hf.ev hx, hf.ev hy, h, Blk.toObj], hs.alloc (Blk.cells z e)⟩⟩) k
end
end Go.Eng
namespace Go.Proofs.YtkpkebpofpcmaaaGreatDoor
open Go Go.Eng Go.RowKit Go.Proofs
set_option maxHeartbeats 4000000
set_option maxRecDepth 10000
attribute [local irreducible] TL TC TQ

def pipeN (b1 b2 : Nat) : Nt := ⟨[cn0], [1], 0, 1, some ⟨b1, 0, none⟩, 1, some ⟨b2, 0, none⟩, 1⟩
theorem pipe_ok (b1 b2 : Nat) : OkNt (pipeN b1 b2) := by
  refine ⟨by show 1 ≤ 16; omega, by show 1 ≤ 12; omega, ⟨show (0 : Int) ≤ 0 by decide, show (0 : Int) ≤ 23040 by decide⟩, ⟨show (1 : Int) ≤ 1 by decide, show (1 : Int) ≤ 16 by decide⟩, fun i c h => ?_, fun x hx => ?_, by show [(1 : Int)].Nodup; simp⟩
  · have h' : [cn0][i]? = some c := h
    cases i with
    | zero => simp at h'; subst h'; exact ⟨⟨by decide, by decide⟩, ⟨by decide, by decide, by decide⟩, ⟨by decide, by decide, by decide⟩⟩
    | succ i => simp at h'
  · have : x ∈ [(1 : Int)] := hx
    rw [List.mem_singleton.1 this]; exact ⟨by decide, show (1 : Int) ≤ 1 by decide⟩
theorem c44 (w : World) : Calls Tryz.prog 44 #[] w (RetP w.heap.size w (fun q : Nat × Nat => .agg (encNt (pipeN q.1 q.2)).toArray) (fun q => [(q.2, .cells [.int .i64 1] 3), (q.1, .cells (encCn cn0) 87)]) (fun _ => True)) := by
  refine enter (args := []) Tryz.func44 rfl Tryz.ntmps44 rfl (SH.refl _) ?_
  repeat' (first | refine rn ?_ | (refine zb ?_; intro _ _) | (refine za ?_; intro _ _) | (refine zs ?_; intro _ _))
  refine TL_makeSliceOne rfl rfl rfl (by rfl) (by decide) (fun b1 _ => ?_)
  repeat' (first | refine rn ?_ | (refine zb ?_; intro _ _) | (refine za ?_; intro _ _) | (refine zs ?_; intro _ _))
  rename_i b2 _
  exact TQ_ret1 Tryz.results44 (RV.celln rfl mm (by rfl)) (fun w' hs => ⟨(b1, b2), trivial, rfl, hs.sub su⟩)
/-- Two changes: the start of the day, and j bowls behind it. -/
def twoC (b j : Int) (ao : Option Addr) : List Cg := [⟨[⟨4, 0, 0, (0, 0)⟩], ao, 1, b, true⟩, ⟨[], none, 0, j, true⟩]
theorem vv0 (k : Ck) (ao : Option Addr) : vvW (k, 0) ⟨[⟨4, 0, 0, (0, 0)⟩], ao, 1, 0, true⟩ = (0, 0) := by
  show comW (ofW (-10000000, 10000000)) [(tellW (k, 0) ⟨4, 0, 0, (0, 0)⟩).1] = (0, 0)
  have : (tellW (k, 0) ⟨4, 0, 0, (0, 0)⟩).1 = ofW (0, 0) := by unfold tellW; simp
  rw [this]; decide
theorem vv1 (k : Ck) (j : Int) : vvW (k, 0) ⟨[], none, 0, j, true⟩ = (-10000000000, 10000000000) := by
  show comW (ofW (-10000000, 10000000)) [] = _
  decide
theorem bowlB {j s : Int} (hj : 0 ≤ j ∧ j ≤ 200) (hs : 0 ≤ s ∧ s ≤ 100000) : 0 ≤ j * s ∧ j * s ≤ 20000000 := by
  refine ⟨Int.mul_nonneg hj.1 hs.1, ?_⟩
  exact Int.le_trans (Int.mul_le_mul_of_nonneg_right hj.2 hs.1) (Int.mul_le_mul_of_nonneg_left hs.2 (by decide))
theorem two_mom (k : Ck) (hk : OkCk k) (j : Int) (hj : 0 ≤ j ∧ j ≤ 200) (ao : Option Addr) : momW k (twoC 0 j ao) ((twoC 0 j ao).map (vvW (k, 0))) 0 = (0, 0) ∧ momW k (twoC 0 j ao) ((twoC 0 j ao).map (vvW (k, 0))) 1 = (j * k.sinks.1, j * k.sinks.2) := by
  obtain ⟨s1, s2, s3⟩ := hk.2.2.2.2.2.1
  have b1 := bowlB (s := k.sinks.1) hj (by omega)
  have b2 := bowlB (s := k.sinks.2) hj (by omega)
  have b3 : j * k.sinks.1 ≤ j * k.sinks.2 := Int.mul_le_mul_of_nonneg_left s2 hj.1
  have e0 : momW k (twoC 0 j ao) ((twoC 0 j ao).map (vvW (k, 0))) 0 = (0, 0) := vv0 k ao
  refine ⟨e0, ?_⟩
  show nxW k ⟨[], none, 0, j, true⟩ (vvW (k, 0) ⟨[], none, 0, j, true⟩) (momW k (twoC 0 j ao) ((twoC 0 j ao).map (vvW (k, 0))) 0) = _
  rw [e0, vv1]
  have e1 : stepW k ⟨[], none, 0, j, true⟩ = (j * k.sinks.1, j * k.sinks.2) := by
    unfold stepW
    dsimp only
    rw [wr_of (by omega), wr_of (by omega)]; rfl
  unfold nxW
  rw [e1]
  dsimp only
  rw [Int.zero_add, Int.zero_add, wr_of (by omega), wr_of (by omega)]
  have ec : [(j * k.sinks.1, j * k.sinks.2)].foldl cutE (-10000000000, 10000000000) = (j * k.sinks.1, j * k.sinks.2) := by
    show (max (-10000000000 : Int) (j * k.sinks.1), min (10000000000 : Int) (j * k.sinks.2)) = _
    rw [show max (-10000000000 : Int) (j * k.sinks.1) = j * k.sinks.1 by omega, show min (10000000000 : Int) (j * k.sinks.2) = j * k.sinks.2 by omega]
  unfold comW
  rw [ec]
  exact if_pos b3
theorem two_night (k : Ck) (hk : OkCk k) (j : Int) (hj : 0 ≤ j ∧ j ≤ 200) (ao : Option Addr) : nightOk k 0 (twoC 0 j ao) := by
  obtain ⟨e0, e1⟩ := two_mom k hk j hj ao
  refine ⟨?_, by show 2 ≤ 20; omega, fun i c h => ?_, fun i hi => ?_⟩
  · unfold openE
    rw [if_neg (fun h => h hk), if_neg (fun h => h ⟨by decide, by decide⟩)]
  · have h' : [(⟨[⟨4, 0, 0, (0, 0)⟩], ao, 1, 0, true⟩ : Cg), ⟨[], none, 0, j, true⟩][i]? = some c := h
    match i, h' with
    | 0, h' =>
      simp at h'; subst h'
      refine ⟨?_, by show 1 ≤ 10; omega, ⟨show (0 : Int) ≤ 0 by decide, show (0 : Int) ≤ 200 by decide⟩, fun _ => ⟨show (0 : Int) ≤ 0 by decide, rfl⟩⟩
      show ([(⟨4, 0, 0, (0, 0)⟩ : Tg)].all fun t => (tellW (k, 0) t).2) = true
      simp [tellW, Ord]
    | 1, h' =>
      simp at h'; subst h'
      exact ⟨rfl, by show 0 ≤ 10; omega, hj, fun h => by omega⟩
    | i + 2, h' => simp at h'
  · have h2 : i < 2 := hi
    match i, h2 with
    | 0, _ => rw [e0]; decide
    | 1, _ =>
      rw [e1]
      intro h
      have h1 : j * k.sinks.1 = 1 := congrArg Prod.fst h
      have h2 : j * k.sinks.2 = 0 := congrArg Prod.snd h
      have := Int.mul_le_mul_of_nonneg_left hk.2.2.2.2.2.1.2.1 hj.1
      omega
/-- The minutes behind j bowls. -/
def turnM (k : Ck) (j : Int) : Sp := (j * k.sinks.1 / 1000, (j * k.sinks.2 + 999) / 1000)
theorem two_min (k : Ck) (hk : OkCk k) (j : Int) (hj : 0 ≤ j ∧ j ≤ 200) : minW (j * k.sinks.1, j * k.sinks.2) = turnM k j := by
  obtain ⟨s1, s2, s3⟩ := hk.2.2.2.2.2.1
  have b1 := bowlB (s := k.sinks.1) hj (by omega)
  have b2 := bowlB (s := k.sinks.2) hj (by omega)
  unfold minW turnM downW
  dsimp only
  rw [if_neg (by omega), Int.tdiv_eq_ediv_of_nonneg b1.1, wr_of (by omega)]
  congr 1
  rw [wr_of (n := -(j * k.sinks.2)) (by omega)]
  by_cases h0 : -(j * k.sinks.2) < 0
  · rw [if_pos h0, Int.neg_neg, wr_of (n := j * k.sinks.2) (by omega), wr_of (n := j * k.sinks.2 + 1000) (by omega), wr_of (n := j * k.sinks.2 + 1000 - 1) (by omega), Int.tdiv_eq_ediv_of_nonneg (by omega), wr_of (n := (j * k.sinks.2 + 1000 - 1) / 1000) (by omega), wr_of (n := -((j * k.sinks.2 + 1000 - 1) / 1000)) (by omega), Int.neg_neg, wr_of (by omega)]
    omega
  · have h1 : j * k.sinks.2 = 0 := by omega
    rw [if_neg h0, h1]; decide
theorem c19 (k : Ck) (hk : OkCk k) (j : Int) (hj : 0 ≤ j ∧ j ≤ 200) (b9 : Nat) (w : World) (hb9 : Sl w 6 encCk (some ⟨b9, 0, none⟩) [k]) (hc : CkAt w k) (hv : Nv w) : Calls Tryz.prog 19 #[.int .i64 j, .pointer (some ⟨b9, 0, none⟩)] w (RetV w (.tuple #[.agg (encSp (turnM k j)).toArray, .bool true])) := by
  refine enter (args := [.int .i64 j, .pointer (some ⟨b9, 0, none⟩)]) Tryz.func19 rfl Tryz.ntmps19 rfl (SH.refl _) ?_
  repeat' (first | refine rn ?_ | (refine zb ?_; intro _ _) | (refine za ?_; intro _ _) | (refine zs ?_; intro _ _))
  rename_i b3 _
  refine TL_load_eln (u := k) (i := 0) (o := 0) rfl rfl (fun w h => h.sl hb9) rfl rfl ?_
  repeat' (first | refine rn ?_ | (refine zb ?_; intro _ _) | (refine za ?_; intro _ _) | (refine zs ?_; intro _ _))
  rename_i b11 _ b15 _
  refine TL_callN rfl rfl rfl (fun w h => c10 k 0 (twoC 0 j (some ⟨b11, 0, none⟩)) (some ⟨b15, 0, none⟩) 2 (by show 2 ≤ 1000000; omega) (fun c hc => ?_) w (hc.mono h.below) ⟨Sl.of_blk h (List.Mem.head _) (fun _ _ => rfl) ⟨[], rfl⟩, fun c hc => ?_⟩ (hv.mono h.below)) ?_
  · rcases List.mem_cons.1 hc with rfl | hc
    · show 1 ≤ 1000000; omega
    · rw [List.mem_singleton.1 hc]; show 0 ≤ 1000000; omega
  · rcases List.mem_cons.1 hc with rfl | hc
    · exact Sl.of_blk h (List.Mem.tail _ (List.Mem.head _)) (fun _ _ => rfl) ⟨[], rfl⟩
    · rw [List.mem_singleton.1 hc]; exact Sl.nil _ _ _ _
  rintro ⟨m, mo, mc, mob, mat, me⟩ ⟨hmr, hnr⟩
  dsimp only at hmr hnr ⊢
  obtain rfl : me = 0 := hnr.ok (two_night k hk j hj _)
  obtain ⟨hm2, hmi⟩ := hnr.all rfl
  have hm2' : m.length = 2 := hm2
  have hm1 : m[1]? = some (turnM k j) := by
    have := hmi 1 rfl
    rw [(two_mom k hk j hj _).2, two_min k hk j hj] at this
    exact this
  rw [hm2']
  repeat' (first | refine rn ?_ | (refine zb ?_; intro _ _) | (refine za ?_; intro _ _) | (refine zs ?_; intro _ _))
  refine TL_index 1 rfl rfl rfl (fun w h => hmr.sl h (fun p hp => List.mem_append_left _ hp)) rfl (by omega) (by omega) ?_
  refine TL_load_eln (u := turnM k j) rfl rfl (fun w h => hmr.sl h (fun p hp => List.mem_append_left _ hp)) hm1 rfl ?_
  repeat' (first | refine rn ?_ | (refine zb ?_; intro _ _) | (refine za ?_; intro _ _) | (refine zs ?_; intro _ _))
  exact TQ_ret2 Tryz.results19 (RV.celln rfl mm (by rfl)) (RV.tmp rfl) (fun w' hs => ⟨rfl, hs.below⟩)
theorem pipe_path (b1 b2 : Nat) : pathM (pipeN b1 b2) 0 = [0] := by
  show (upF [cn0] 17 1).reverse = [0]
  rfl
theorem pipe_so (b1 b2 : Nat) (m : Int) (h0 : 0 ≤ m) : soM (pipeN b1 b2) (1, 2) 0 10 m = decide (10 ≤ m) := by
  unfold soM
  rw [pipe_path]
  have : loW (pipeN b1 b2) [0] (1 * m) = m := by
    show downM (1 * m) 0 1000 = m
    unfold downM; omega
  rw [this]
def ckA : Ck := ⟨[], [], (0, 0), (2500, 3000), none, 0, none, 0⟩
theorem ckA_ok : OkCk ckA := by decide
theorem mA (ao : Option Addr) : (bkW ckA (twoC 0 4 ao) 1 (mosW ckA (twoC 0 4 ao) ((twoC 0 4 ao).map (vvW (ckA, 0))) 2)).map minW = [(0, 0), (10, 12)] := by
  obtain ⟨e0, e1⟩ := two_mom ckA ckA_ok 4 (by decide) ao
  have : mosW ckA (twoC 0 4 ao) ((twoC 0 4 ao).map (vvW (ckA, 0))) 2 = [(0, 0), (10000, 12000)] := by
    rw [mosW_succ, mosW_succ, e1, e0]; rfl
  rw [this]
  have e2 : (twoC 0 4 ao).getD 1 cg0 = ⟨[], none, 0, 4, true⟩ := rfl
  show List.map minW ([((0 : Int), (0 : Int)), (10000, 12000)].set 0 (comW (0, 0) [(wr (10000 - (stepW ckA ((twoC 0 4 ao).getD 1 cg0)).2), wr (12000 - (stepW ckA ((twoC 0 4 ao).getD 1 cg0)).1))])) = [(0, 0), (10, 12)]
  rw [e2]
  decide
theorem c14 (w : World) (hv : Nv w) : Calls Tryz.prog 14 #[] w (RetV w (.bool true)) := by
  refine enter (args := []) Tryz.func14 rfl Tryz.ntmps14 rfl (SH.refl _) ?_
  repeat' (first | refine rn ?_ | (refine zb ?_; intro _ _) | (refine za ?_; intro _ _) | (refine zs ?_; intro _ _))
  refine TL_callV rfl rfl rfl (fun w h => c32 2500 3000 w) ?_
  repeat' (first | refine rn ?_ | (refine zb ?_; intro _ _) | (refine za ?_; intro _ _) | (refine zs ?_; intro _ _))
  rename_i b1 _
  refine TL_callN rfl rfl rfl (fun w h => c44 w) ?_
  rintro ⟨p1, p2⟩ _
  dsimp only
  refine TL_callV rfl rfl rfl (fun w h => c32 1 2 w) ?_
  refine TL_callN rfl rfl rfl (fun w h => c18 (pipeN p1 p2) (pipe_ok p1 p2) (1, 2) ⟨by decide, by decide, by decide⟩ 0 (by show 0 < 1; omega) 10 (by decide) (by decide) w (Sl.of_blk h (List.Mem.tail _ (List.Mem.head _)) (fun _ _ => rfl) ⟨[], rfl⟩) (Sl.of_blk h (List.Mem.head _) (fun _ _ => rfl) ⟨[], rfl⟩)) ?_
  rintro ⟨q1, q2⟩ hq
  have hq' : q1 = 10 ∧ q2 = 0 := by
    rcases hq with ⟨e, h⟩ | ⟨e, h0, h1, h2, h3⟩
    · have e2 : (pipeN p1 p2).days = 1 := rfl
      rw [e2, pipe_so p1 p2 _ (by decide)] at h
      simp at h
    · dsimp only at e h0 h1 h2 h3
      rw [pipe_so p1 p2 _ h0] at h2
      have a := of_decide_eq_true h2
      have b := h3 (by omega)
      rw [pipe_so p1 p2 _ (by omega)] at b
      have := of_decide_eq_false b
      exact ⟨by omega, e⟩
  obtain ⟨rfl, rfl⟩ := hq'
  dsimp only
  repeat' (first | refine rn ?_ | (refine zb ?_; intro _ _) | (refine za ?_; intro _ _) | (refine zs ?_; intro _ _))
  rename_i b11 _ b15 _
  refine TL_callN rfl rfl rfl (fun w h => c10 ckA 0 (twoC 0 4 (some ⟨b11, 0, none⟩)) (some ⟨b15, 0, none⟩) 2 (by show 2 ≤ 1000000; omega) (fun c hc => ?_) w ⟨Sl.nil _ _ _ _, Sl.nil _ _ _ _, by unfold Small; decide, by unfold Small; decide⟩ ⟨Sl.of_blk h (List.Mem.head _) (fun _ _ => rfl) ⟨[], rfl⟩, fun c hc => ?_⟩ (hv.mono h.below)) ?_
  · rcases List.mem_cons.1 hc with rfl | hc
    · show 1 ≤ 1000000; omega
    · rw [List.mem_singleton.1 hc]; show 0 ≤ 1000000; omega
  · rcases List.mem_cons.1 hc with rfl | hc
    · exact Sl.of_blk h (List.Mem.tail _ (List.Mem.head _)) (fun _ _ => rfl) ⟨[], rfl⟩
    · rw [List.mem_singleton.1 hc]; exact Sl.nil _ _ _ _
  rintro ⟨m, mo, mc, mob, mat, me⟩ ⟨hmr, hnr⟩
  dsimp only at hmr hnr ⊢
  obtain rfl : me = 0 := hnr.ok (two_night ckA ckA_ok 4 (by decide) _)
  have hm : m = [(0, 0), (10, 12)] := (hnr.mom rfl).trans (mA _)
  subst hm
  repeat' (first | refine rn ?_ | (refine zb ?_; intro _ _) | (refine za ?_; intro _ _) | (refine zs ?_; intro _ _))
  refine TL_callV rfl rfl rfl (fun w h => c7 w) ?_
  repeat' (first | refine rn ?_ | (refine zb ?_; intro _ _) | (refine za ?_; intro _ _) | (refine zs ?_; intro _ _))
  refine TL_callV rfl rfl rfl (fun w h => c32 0 0 w) ?_
  repeat' (first | refine rn ?_ | (refine zb ?_; intro _ _) | (refine za ?_; intro _ _) | (refine zs ?_; intro _ _))
  refine TL_callV rfl rfl rfl (fun w h => c32 10 12 w) ?_
  repeat' (first | refine rn ?_ | (refine zb ?_; intro _ _) | (refine za ?_; intro _ _) | (refine zs ?_; intro _ _))
  refine TL_callV rfl rfl rfl (fun w h => c45 [(0, 0), (10, 12)] [(0, 0), (10, 12)] mo _ mc 2 (by unfold Small; decide) w (hmr.sl h (fun p hp => List.mem_cons_of_mem _ (List.mem_append_left _ hp))) (Sl.of_blk h (List.Mem.head _) (fun _ _ => rfl) ⟨[], rfl⟩) rfl) ?_
  repeat' (first | refine rn ?_ | (refine zb ?_; intro _ _) | (refine za ?_; intro _ _) | (refine zs ?_; intro _ _))
  exact TQ_ret1 Tryz.results14 (RV.tmp rfl) (fun w' hs => ⟨rfl, hs.below⟩)
end Go.Proofs.YtkpkebpofpcmaaaGreatDoor
