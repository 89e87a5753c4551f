/- The walk of the statement DateReached. -/
import Derived.Test.YtccgplomnjpniaaE37
import Derived.Test.YtccgplomnjpniaaE34
namespace Go.Eng
open Go Go.RowKit
section
variable {r : Option Nat} {P : Program} {Q : Exit → Act → World → Prop} {N : Nat} {D : List Deferred} {B : Nat} {w0 : World} {L : Env} {H : Hp} {ops : Array Oper} {rest : List Oper}
variable {d : Nat} {ty : TypeId} {pos : String} {aft : Array Edge}
/-- Element i of an array that is a value, several cells each. -/
theorem TL_indexAn {t e : TypeId} {x y : Operand} {n sz : Nat} {z vs us : List Value} {kd : IntKind} {m : Int} (i : Nat) (hd : Nat.blt d N = true) [hu : AryP P t n e] [he : TyP P e sz true z]
    (hx : ev L x = some (.agg vs.toArray)) (hy : ev L y = some (.int kd m)) (hm : m = (i : Int)) (hi : i < n) (hv : takeN sz (dropN (i * sz) vs) = some us)
    (k : TL r P Q N D B w0 ((d, .agg us.toArray) :: L) H ops rest) : TL r P Q N D B w0 L H ops (⟨some d, .index t x y, ty, pos, aft, none⟩ :: rest) :=
  TL_val (by simp) hd _ (fun a w hf _ => by
    obtain ⟨j, _, hj, hsz, _, _⟩ := he.info
    subst hm
    have h0 := takeN_some hv
    rw [dropN_eq] at h0
    have h1 : (Go.sizeOf e).run P w = .ok sz w := by rw [run_sizeOf w hj]; simp [Program.cellsOf, hj, hsz]
    have h2 : (Instr.index t (.agg vs.toArray) (.int kd (i : Int))).run P w = .ok (.agg us.toArray) w := by
      simp [Instr.index, run_underlying hu.u, asIntOf, hi, h1, part, he.ag w, h0.1.symm]
    simp [execOp, hf.ev hx, hf.ev hy, h2]) k
/-- '==' on [2]bool. -/
theorem TL_eqlB2 {t t' e : TypeId} {x y : Operand} {z : List Value} {p1 p2 q1 q2 : Bool} (hd : Nat.blt d N = true) [hu : AryP P t 2 e] [he : TyP P e 1 false z] [hg : EqG P t] (hb : P.underlying e = some .bool)
    (hx : ev L x = some (.agg #[.bool p1, .bool p2])) (hy : ev L y = some (.agg #[.bool q1, .bool q2]))
    (k : TL r P Q N D B w0 ((d, .bool (p1 == q1 && p2 == q2)) :: L) H ops rest) : TL r P Q N D B w0 L H ops (⟨some d, .binOp .eql t x y t', ty, pos, aft, none⟩ :: rest) :=
  TL_val (by simp) hd _ (fun a w hf _ => by
    obtain ⟨j, _, hj, hsz, _, _⟩ := he.info
    have hc : P.cellsOf e = 1 := by simp [Program.cellsOf, hj, hsz]
    have h : (Op.equalIn 10000 t (.agg #[.bool p1, .bool p2]) (.agg #[.bool q1, .bool q2])).run P w = .ok (p1 == q1 && p2 == q2) w := by
      have e1 : (List.range 2) = [0, 1] := rfl
      rw [run_equalIn_array w 9999 _ _ hu.u hj, hc, e1]
      simp only [Op.eqItems, Sem.run_bind, part, he.ag w, Result.andThen_ok, Bool.false_eq_true, if_false, Nat.zero_mul, Nat.one_mul]
      cases p1 <;> cases q1 <;> cases p2 <;> cases q2 <;> simp [run_equalIn_bool' (P := P) w 9998 e _ _ hb, part, he.ag w]
    simp [execOp, hf.ev hx, hf.ev hy, run_eqGuard_agg w .eql t x y _ _ hg.guard, run_eql_struct, h]) k
end
end Go.Eng
namespace Go.Proofs.Ytccgplomnjpniaa
open Go Go.Eng Go.RowKit Go.Proofs
set_option maxHeartbeats 4000000
set_option maxRecDepth 10000
attribute [local irreducible] TL TC TQ

theorem eqGuardType85 : Try.prog.eqGuardType Try.prog.depth 85 = false := by kernel_rfl
instance eqg85 : EqG Try.prog 85 := ⟨eqGuardType85⟩

theorem sumN_rg {b : Bn} (hb : OkBn b) (least : Bool) : ∀ k, k ≤ b.ripe.length → 0 ≤ sumN least b.ripe k ∧ sumN least b.ripe k ≤ 100000 * (k : Int) := by
  intro k
  induction k with
  | zero => intro _; simp [sumN]
  | succ k ih =>
    intro hk
    obtain ⟨x, hx⟩ : ∃ x, b.ripe[k]? = some x := ⟨_, List.getElem?_eq_getElem (by omega)⟩
    have hox := hb.2.1 x (List.mem_of_getElem? hx)
    simp only [Ord] at hox
    have := ih (by omega)
    rw [sumN, List.getD_eq_getElem?_getD, hx, Option.getD_some]
    cases least <;> simp only [endS, Bool.false_eq_true, if_false, if_true] <;> omega
theorem c40 {B : Nat} {w0 : World} (f : Ft) (b : Bn) (ao : Option Addr) (c : Nat) (l : List Int) (lo : Option Addr) (lc : Nat) (least few : Bool) (hchk : checkR f b = 0) (hcut : cutsB b.ripe.length 0 l = true) (hl2 : l.length ≤ 20)
    (hab : ∀ {w : World} {K : Hp}, SH B w0 w K → Sl w 2 encSp ao b.ripe) (hal : ∀ {w : World} {K : Hp}, SH B w0 w K → Sl w 1 encI lo l) (bb bf bc : Nat) (G : Hp)
    (hmb : (bb, .cells (encBn b ao c) 46) ∈ G) (hmf : (bf, .cells (encFt f) 43) ∈ G) (hmc : (bc, .cells [.slice lo l.length lc] 47) ∈ G) (w : World) (hs : SH B w0 w G) :
    Calls Try.prog 40 #[.bool least, .bool few, .pointer (some ⟨bb, 0, none⟩), .pointer (some ⟨bf, 0, none⟩), .pointer (some ⟨bc, 0, none⟩)] w
      (RetP B w0 (fun _ : Unit => .tuple #[.agg (encYd (cutR f (exactB b least few) l)).toArray, .int .i64 (sumN least b.ripe b.ripe.length), .bool true]) (fun _ => G) (fun _ => True)) := by
  obtain ⟨hf, hbn⟩ := checkR_ok hchk
  have hlen := hbn.1
  have hbo := hbn.2.2
  simp only [In] at hlen
  simp only [Ord] at hbo
  have hexa := exact_ok hbn least few
  have hle : (exactB b least few).ripe.length = b.ripe.length := by simp [exactB]
  have c23z := fun so sc w h1 h2 => c23 f (exactB b least few) so sc l lo lc (by omega) (by omega) w h1 h2
  rw [cutF_ok (check_of hf hexa) (by rw [hle]; exact hcut)] at c23z
  refine enter (args := [.bool least, .bool few, .pointer (some ⟨bb, 0, none⟩), .pointer (some ⟨bf, 0, none⟩), .pointer (some ⟨bc, 0, none⟩)]) Try.func40 rfl Try.ntmps40 rfl hs ?_
  repeat' (first | refine rn ?_ | (apply TL_box; exact rfl; exact rfl; exact rfl; intro _ _) | (apply TL_alloc; exact rfl; intro _ _) | (apply TL_buildSlice; exact rfl; exact rfl; exact rfl; exact rfl; exact rfl; intro _ _))
  rename_i b7 _
  refine TL_loadn rfl rfl (List.Mem.tail _ hmb) rfl ?_
  refine TL_callN rfl rfl rfl (fun w h => c20 b ao c (by omega) w (hab h)) ?_
  rintro ⟨so, sc, ob⟩ hrow
  replace hrow : Row 23 2 encSp so sc ob b.ripe := hrow
  dsimp only
  repeat' (first | refine rn ?_ | (apply TL_box; exact rfl; exact rfl; exact rfl; intro _ _) | (apply TL_alloc; exact rfl; intro _ _) | (apply TL_buildSlice; exact rfl; exact rfl; exact rfl; exact rfl; exact rfl; intro _ _))
  rename_i b10 _
  refine TC_loop (σ := Nat × Hp) (fun q => q.1 ≤ b.ripe.length ∧ Row 23 2 encSp so sc q.2 (mapTo (endS least) b.ripe q.1))
    (fun q => [(0, .bool least), (1, .bool few), (2, .pointer (some ⟨bb, 0, none⟩)), (3, .pointer (some ⟨bf, 0, none⟩)), (4, .pointer (some ⟨bc, 0, none⟩)), (7, .pointer (some ⟨b7, 0, none⟩)), (10, .pointer (some ⟨b10, 0, none⟩)), (11, .int .i64 (sumN least b.ripe q.1)), (21, .slice so b.ripe.length sc), (22, .int .i64 b.ripe.length), (23, .int .i64 q.1)])
    (fun q => (b10, .cells (encBn b so sc) 46) :: (q.2 ++ ((b7, .cells (encYd zeroYd) 55) :: G))) (fun q => b.ripe.length - q.1) (0, ob) ⟨Nat.zero_le _, by rw [mapTo_zero]; exact hrow⟩ sb (fun w h => h) (fun q hq => ?_)
  obtain ⟨k, ob⟩ := q
  obtain ⟨q1, hrow⟩ := hq
  dsimp only at q1 hrow ⊢
  have hln : (mapTo (endS least) b.ripe k).length = b.ripe.length := mapTo_len _ _ _
  have hsm := sumN_rg hbn least k q1
  repeat' (first | refine rn ?_ | (apply TL_box; exact rfl; exact rfl; exact rfl; intro _ _) | (apply TL_alloc; exact rfl; intro _ _) | (apply TL_buildSlice; exact rfl; exact rfl; exact rfl; exact rfl; exact rfl; intro _ _))
  refine TC_cond_dec rfl (fun h1 => ?_) (fun h1 => ?_)
  · have hlt : k < b.ripe.length := by omega
    obtain ⟨x, hx⟩ : ∃ x, b.ripe[k]? = some x := ⟨_, List.getElem?_eq_getElem hlt⟩
    have hox := hbn.2.1 x (List.mem_of_getElem? hx)
    simp only [Ord] at hox
    have hx1 : (mapTo (endS least) b.ripe k)[k]? = some x := by rw [mapTo_get, hx]; simp
    have hs1 := mapTo_set (endS least) b.ripe hx
    obtain ⟨v, hee, hv, hvt, hvf⟩ : ∃ v, endS least k x = (v, v) ∧ (0 ≤ v ∧ v ≤ 100000) ∧ (least = true → x.1 = v) ∧ (least = false → x.2 = v) := by
      cases least with
      | true => exact ⟨x.1, rfl, by omega, fun _ => rfl, fun h => by cases h⟩
      | false => exact ⟨x.2, rfl, by omega, (fun h => by cases h), fun _ => rfl⟩
    have hsum : sumN least b.ripe (k + 1) = sumN least b.ripe k + v := by
      rw [sumN, List.getD_eq_getElem?_getD, hx, Option.getD_some, hee]
    rw [hee] at hs1
    repeat' (first | refine rn ?_ | (apply TL_box; exact rfl; exact rfl; exact rfl; intro _ _) | (apply TL_alloc; exact rfl; intro _ _) | (apply TL_buildSlice; exact rfl; exact rfl; exact rfl; exact rfl; exact rfl; intro _ _))
    refine TL_index k rfl rfl rfl (fun w h => hrow.sl h (fun p hp => by repeat (first | exact List.mem_append_left _ hp | apply List.mem_append_right | apply List.mem_cons_of_mem))) rfl (by omega) (Nat.le_of_eq hln) ?_
    refine TL_load_eln (u := x) rfl rfl (fun w h => hrow.sl h (fun p hp => by repeat (first | exact List.mem_append_left _ hp | apply List.mem_append_right | apply List.mem_cons_of_mem))) hx1 rfl ?_
    repeat' (first | refine rn ?_ | (apply TL_box; exact rfl; exact rfl; exact rfl; intro _ _) | (apply TL_alloc; exact rfl; intro _ _) | (apply TL_buildSlice; exact rfl; exact rfl; exact rfl; exact rfl; exact rfl; intro _ _))
    refine TC_join (σ := Unit) (fun _ => True) (fun _ => [(0, .bool least), (1, .bool few), (2, .pointer (some ⟨bb, 0, none⟩)), (3, .pointer (some ⟨bf, 0, none⟩)), (4, .pointer (some ⟨bc, 0, none⟩)), (7, .pointer (some ⟨b7, 0, none⟩)), (10, .pointer (some ⟨b10, 0, none⟩)), (11, .int .i64 (sumN least b.ripe k)), (12, .int .i64 k), (14, .int .i64 v), (21, .slice so b.ripe.length sc), (22, .int .i64 b.ripe.length), (23, .int .i64 k)])
      (fun _ => (b10, .cells (encBn b so sc) 46) :: (ob ++ ((b7, .cells (encYd zeroYd) 55) :: G))) ?_ (fun _ _ => ?_)
    · refine TC_cond rfl (fun h => ?_) (fun h => ?_)
      · repeat' (first | refine rn ?_ | (apply TL_box; exact rfl; exact rfl; exact rfl; intro _ _) | (apply TL_alloc; exact rfl; intro _ _) | (apply TL_buildSlice; exact rfl; exact rfl; exact rfl; exact rfl; exact rfl; intro _ _))
        exact TQ_mid () trivial (by rw [← hvt h]; exact sb) (fun w h => h.sub (List.Sublist.cons _ (List.Sublist.refl _)))
      · repeat' (first | refine rn ?_ | (apply TL_box; exact rfl; exact rfl; exact rfl; intro _ _) | (apply TL_alloc; exact rfl; intro _ _) | (apply TL_buildSlice; exact rfl; exact rfl; exact rfl; exact rfl; exact rfl; intro _ _))
        exact TQ_mid () trivial (by rw [← hvf h]; exact sb) (fun w h => h.sub (List.Sublist.cons _ (List.Sublist.refl _)))
    repeat' (first | refine rn ?_ | (apply TL_box; exact rfl; exact rfl; exact rfl; intro _ _) | (apply TL_alloc; exact rfl; intro _ _) | (apply TL_buildSlice; exact rfl; exact rfl; exact rfl; exact rfl; exact rfl; intro _ _))
    apply TC_draw 6; kernel_rfl; exact Try.mixed
    · iterate 5 (refine' pv ?_; rotate_left)
      (refine' PG.val rfl rfl (by intro _X; refine TL_callV rfl rfl rfl (fun w _ => c34 v v w) ?_; exact qe) ?_; rotate_left)
      exact PG.nil
    change TL _ _ _ _ _ _ _ _ _ _ _
    refine TL_index k rfl rfl rfl (fun w h => hrow.sl h (fun p hp => by repeat (first | exact List.mem_append_left _ hp | apply List.mem_append_right | apply List.mem_cons_of_mem))) rfl (by omega) (Nat.le_of_eq hln) ?_
    refine TL_store_el (u := x) (u' := ((v, v) : Sp)) (f := fun z => (b10, .cells (encBn b so sc) 46) :: (z ++ ((b7, .cells (encYd zeroYd) 55) :: G))) hrow rfl rfl rfl rfl rfl rfl hx1 rfl rfl (fun b x y => up) (fun ob' hr => ?_)
    rw [hs1] at hr
    repeat' (first | refine rn ?_ | (apply TL_box; exact rfl; exact rfl; exact rfl; intro _ _) | (apply TL_alloc; exact rfl; intro _ _) | (apply TL_buildSlice; exact rfl; exact rfl; exact rfl; exact rfl; exact rfl; intro _ _))
    refine TQ_round (k + 1, ob') ⟨hlt, hr⟩ (by dsimp only; omega) (by dsimp only; rw [hsum]; exact sb) (fun w h => h)
  · have hk : k = b.ripe.length := by omega
    subst hk
    obtain ⟨u, hue, hut, huf⟩ : ∃ u, (if few = true then (b.birds.1, b.birds.1) else (b.birds.2, b.birds.2) : Sp) = (u, u) ∧ (few = true → b.birds.1 = u) ∧ (few = false → b.birds.2 = u) := by
      cases few with
      | true => exact ⟨_, rfl, fun _ => rfl, fun h => by cases h⟩
      | false => exact ⟨_, rfl, (fun h => by cases h), fun _ => rfl⟩
    have eX : encBn (exactB b least few) so sc = [.slice so b.ripe.length sc, .int .i64 u, .int .i64 u, .bool b.cov] := by
      rw [← hle]; show [_, Value.int .i64 (ite _ _ _ : Sp).1, Value.int .i64 (ite _ _ _ : Sp).2, _] = _; rw [hue]; rfl
    have c23z' := fun w h1 h2 => c23z so sc w h1 h2
    rw [eX] at c23z'
    rw [mapTo_all _ _ (Nat.le_refl _)] at hrow
    repeat' (first | refine rn ?_ | (apply TL_box; exact rfl; exact rfl; exact rfl; intro _ _) | (apply TL_alloc; exact rfl; intro _ _) | (apply TL_buildSlice; exact rfl; exact rfl; exact rfl; exact rfl; exact rfl; intro _ _))
    refine TC_join (σ := Unit) (fun _ => True) (fun _ => [(0, .bool least), (1, .bool few), (2, .pointer (some ⟨bb, 0, none⟩)), (3, .pointer (some ⟨bf, 0, none⟩)), (4, .pointer (some ⟨bc, 0, none⟩)), (7, .pointer (some ⟨b7, 0, none⟩)), (10, .pointer (some ⟨b10, 0, none⟩)), (11, .int .i64 (sumN least b.ripe b.ripe.length)), (15, .int .i64 u)])
      (fun _ => (b10, .cells (encBn b so sc) 46) :: (ob ++ ((b7, .cells (encYd zeroYd) 55) :: G))) ?_ (fun _ _ => ?_)
    · refine TC_cond rfl (fun h => ?_) (fun h => ?_)
      · repeat' (first | refine rn ?_ | (apply TL_box; exact rfl; exact rfl; exact rfl; intro _ _) | (apply TL_alloc; exact rfl; intro _ _) | (apply TL_buildSlice; exact rfl; exact rfl; exact rfl; exact rfl; exact rfl; intro _ _))
        exact TQ_mid () trivial (by rw [← hut h]; exact sb) (fun w h => h)
      · repeat' (first | refine rn ?_ | (apply TL_box; exact rfl; exact rfl; exact rfl; intro _ _) | (apply TL_alloc; exact rfl; intro _ _) | (apply TL_buildSlice; exact rfl; exact rfl; exact rfl; exact rfl; exact rfl; intro _ _))
        exact TQ_mid () trivial (by rw [← huf h]; exact sb) (fun w h => h)
    repeat' (first | refine rn ?_ | (apply TL_box; exact rfl; exact rfl; exact rfl; intro _ _) | (apply TL_alloc; exact rfl; intro _ _) | (apply TL_buildSlice; exact rfl; exact rfl; exact rfl; exact rfl; exact rfl; intro _ _))
    refine TL_callV rfl rfl rfl (fun w _ => c34 u u w) ?_
    repeat' (first | refine rn ?_ | (apply TL_box; exact rfl; exact rfl; exact rfl; intro _ _) | (apply TL_alloc; exact rfl; intro _ _) | (apply TL_buildSlice; exact rfl; exact rfl; exact rfl; exact rfl; exact rfl; intro _ _))
    refine TL_loadn rfl rfl (by repeat (first | exact hmf | apply List.mem_cons_of_mem | apply List.mem_append_right)) rfl ?_
    refine r1 ?_
    refine TL_load1 rfl rfl (by repeat (first | exact hmc | apply List.mem_cons_of_mem | apply List.mem_append_right)) rfl ?_
    refine TL_callV rfl rfl rfl (fun w h => c23z' w (hrow.sl h (fun p hp => by repeat (first | exact List.mem_append_left _ hp | apply List.mem_append_right | apply List.mem_cons_of_mem))) (hal h)) ?_
    repeat' (first | (refine TL_eql_same rfl rfl rfl ?_) | refine r1 ?_ | (apply TL_box; exact rfl; exact rfl; exact rfl; intro _ _) | (apply TL_alloc; exact rfl; intro _ _) | (apply TL_buildSlice; exact rfl; exact rfl; exact rfl; exact rfl; exact rfl; intro _ _))
    exact TQ_ret3 Try.results40 (RV.celln rfl mm (by rfl)) (RV.tmp rfl) (RV.tmp rfl) (fun w' hs => ⟨(), trivial, rfl, hs.sub (by repeat (first | exact List.Sublist.refl _ | apply List.Sublist.cons | refine List.Sublist.trans ?_ (List.sublist_append_right _ _)))⟩)
def encBB (p : Bool × Bool) : List Value := [.bool p.1, .bool p.2]
def PL : List (Bool × Bool) := [(true, true), (true, false), (false, true), (false, false)]
def psL (z : Yd) : Nat → Int
  | 0 => 0
  | 1 => 0 + z.g0.1
  | 2 => 0 + z.g0.1 + z.g1.1
  | _ => 0 + z.g0.1 + z.g1.1 + z.g2.1
def psH (z : Yd) : Nat → Int
  | 0 => 0
  | 1 => 0 + z.g0.2
  | 2 => 0 + z.g0.2 + z.g1.2
  | _ => 0 + z.g0.2 + z.g1.2 + z.g2.2
theorem c8 (f : Ft) (b : Bn) (ao : Option Addr) (c : Nat) (l : List Int) (lo : Option Addr) (lc : Nat) (hl : b.ripe.length ≤ 9223372036854775807) (hl2 : l.length ≤ 9223372036854775807)
    (w : World) (ha : Sl w 2 encSp ao b.ripe) (hal : Sl w 1 encI lo l) :
    Calls Try.prog 8 #[.agg (encFt f).toArray, .agg (encBn b ao c).toArray, .slice lo l.length lc] w (RetV w (.bool true)) := by
  refine enter (args := [.agg (encFt f).toArray, .agg (encBn b ao c).toArray, .slice lo l.length lc]) Try.func8 rfl Try.ntmps8 rfl (SH.refl _) ?_
  repeat' (first | refine rn ?_ | (apply TL_box; exact rfl; exact rfl; exact rfl; intro _ _) | (apply TL_alloc; exact rfl; intro _ _) | (apply TL_buildSlice; exact rfl; exact rfl; exact rfl; exact rfl; exact rfl; intro _ _))
  rename_i b3 _ b4 _ b5 _
  refine TL_callV rfl rfl rfl (fun w _ => c31 w) ?_
  repeat' (first | refine rn ?_ | (apply TL_box; exact rfl; exact rfl; exact rfl; intro _ _) | (apply TL_alloc; exact rfl; intro _ _) | (apply TL_buildSlice; exact rfl; exact rfl; exact rfl; exact rfl; exact rfl; intro _ _))
  refine TL_callV rfl rfl rfl (fun w h => c36 f b ao c l lo lc hl hl2 w (h.sl ha) (h.sl hal)) ?_
  repeat' (first | refine rn ?_ | (apply TL_box; exact rfl; exact rfl; exact rfl; intro _ _) | (apply TL_alloc; exact rfl; intro _ _) | (apply TL_buildSlice; exact rfl; exact rfl; exact rfl; exact rfl; exact rfl; intro _ _))
  refine TL_gsplit_dec rfl rfl (fun g1 => ?_) (fun g1 => ?_)
  · repeat' (first | refine rn ?_ | (apply TL_box; exact rfl; exact rfl; exact rfl; intro _ _) | (apply TL_alloc; exact rfl; intro _ _) | (apply TL_buildSlice; exact rfl; exact rfl; exact rfl; exact rfl; exact rfl; intro _ _))
    exact TQ_ret1 Try.results8 (RV.tmp rfl) (fun w' hs => ⟨rfl, hs.below⟩)
  repeat' (first | refine rn ?_ | (apply TL_box; exact rfl; exact rfl; exact rfl; intro _ _) | (apply TL_alloc; exact rfl; intro _ _) | (apply TL_buildSlice; exact rfl; exact rfl; exact rfl; exact rfl; exact rfl; intro _ _))
  have hrdy : Rdy f b l := Classical.not_not.1 g1
  obtain ⟨⟨r1', r2'⟩, hchk, hcut⟩ := hrdy
  obtain ⟨hf, hbn⟩ := checkR_ok hchk
  have c23y := fun w h1 h2 => c23 f b ao c l lo lc (by omega) (by omega) w h1 h2
  rw [cutF_ok hchk hcut] at c23y
  have hreach := fun least few => reached (l := l) hf hbn least few _ (Nat.le_refl _)
  have hlen := hbn.1
  simp only [In] at hlen
  have hsm := fun least => sumN_rg hbn least b.ripe.length (Nat.le_refl _)
  have hYB : ∀ least few, YB (cutR f (exactB b least few) l) 2400000000 := fun least few => (cutK_B (l := l) hf (exact_ok hbn least few) _ (Nat.le_refl _)).mono (by simp [exactB]; omega)
  have hZ : ∀ least few, cutK f (exactB b least few) l b.ripe.length = cutR f (exactB b least few) l := fun least few => by unfold cutR; simp [exactB]
  simp only [hZ] at hreach
  change ∀ least few, Rch least few (cutR f b l) _ _ at hreach
  generalize cutR f b l = y at c23y hreach
  refine TL_callV rfl rfl rfl (fun w h => c23y w (h.sl ha) (h.sl hal)) ?_
  repeat' (first | refine rn ?_ | (apply TL_box; exact rfl; exact rfl; exact rfl; intro _ _) | (apply TL_alloc; exact rfl; intro _ _) | (apply TL_buildSlice; exact rfl; exact rfl; exact rfl; exact rfl; exact rfl; intro _ _))
  rename_i b8 _ b46 _
  refine TC_loop (σ := Nat) (fun k => k ≤ 4) (fun k => [(3, .pointer (some ⟨b3, 0, none⟩)), (4, .pointer (some ⟨b4, 0, none⟩)), (5, .pointer (some ⟨b5, 0, none⟩)), (7, .bool true), (8, .pointer (some ⟨b8, 0, none⟩)), (10, .func (.func 40) #[] #[.pointer (some ⟨b4, 0, none⟩), .pointer (some ⟨b3, 0, none⟩), .pointer (some ⟨b5, 0, none⟩)]), (46, .slice (some ⟨b46, 0, none⟩) 4 4), (47, .int .i64 4), (48, .int .i64 k)])
    (fun _ => [(b46, .cells (PL.flatMap encBB) 85), (b8, .cells (encYd y) 55), (b5, .cells [.slice lo l.length lc] 47), (b4, .cells (encBn b ao c) 46), (b3, .cells (encFt f) 43)]) (fun k => 4 - k) 0 (by omega) sb (fun w h => h) (fun k hk => ?_)
  repeat' (first | refine rn ?_ | (apply TL_box; exact rfl; exact rfl; exact rfl; intro _ _) | (apply TL_alloc; exact rfl; intro _ _) | (apply TL_buildSlice; exact rfl; exact rfl; exact rfl; exact rfl; exact rfl; intro _ _))
  refine TC_cond_dec rfl (fun h1 => ?_) (fun h1 => ?_)
  · obtain ⟨⟨least, few⟩, hx⟩ : ∃ p, PL[k]? = some p := ⟨_, List.getElem?_eq_getElem (by show k < 4; omega)⟩
    have hR := hreach least few
    have hB := hYB least few
    have hS := hsm least
    have c40' := fun G w hmb hmf hmc hs => c40 (B := _) (w0 := _) f b ao c l lo lc least few hchk hcut (by omega) (fun h => h.sl ha) (fun h => h.sl hal) b4 b3 b5 G hmb hmf hmc w hs
    generalize cutR f (exactB b least few) l = z at hR hB c40'
    generalize sumN least b.ripe b.ripe.length = all at hR hS c40'
    obtain ⟨e1, e2, e3, e4, e5, e6, e7, e8, e9⟩ := hR
    obtain ⟨d0, d1, d2, d3, d4, d5, d6⟩ := hB
    simp only [InS] at d0 d1 d2 d3 d4 d5 d6
    repeat' (first | refine rn ?_ | (apply TL_box; exact rfl; exact rfl; exact rfl; intro _ _) | (apply TL_alloc; exact rfl; intro _ _) | (apply TL_buildSlice; exact rfl; exact rfl; exact rfl; exact rfl; exact rfl; intro _ _))
    refine TL_index k rfl rfl rfl (fun w h => Sl.of_blk (l := PL) (enc := encBB) h mm (fun _ _ => rfl) ⟨[], rfl⟩) rfl (by show k < 4; omega) (Nat.le_refl _) ?_
    refine TL_load_eln (u := (least, few)) rfl rfl (fun w h => Sl.of_blk (l := PL) (enc := encBB) h mm (fun _ _ => rfl) ⟨[], rfl⟩) hx rfl ?_
    repeat' (first | refine rn ?_ | (apply TL_box; exact rfl; exact rfl; exact rfl; intro _ _) | (apply TL_alloc; exact rfl; intro _ _) | (apply TL_buildSlice; exact rfl; exact rfl; exact rfl; exact rfl; exact rfl; intro _ _))
    refine TL_indexAddrA 0 rfl rfl rfl rfl (by omega) ?_
    refine r1 ?_
    refine TL_indexAddrA 1 rfl rfl rfl rfl (by omega) ?_
    refine r1 ?_
    rename_i b12 _
    refine TL_call rfl rfl rfl _ _ _ (fun w h => c40' _ w mm mm mm h) (fun _ _ => ?_)
    repeat' (first | (refine TL_neq_f rfl rfl rfl (by first | omega | (dsimp only; omega)) ?_) | refine r1 ?_ | (apply TL_box; exact rfl; exact rfl; exact rfl; intro _ _) | (apply TL_alloc; exact rfl; intro _ _) | (apply TL_buildSlice; exact rfl; exact rfl; exact rfl; exact rfl; exact rfl; intro _ _))
    rename_i b13 _
    refine TC_loop (σ := Nat) (fun k2 => k2 ≤ 3) (fun k2 => [(3, .pointer (some ⟨b3, 0, none⟩)), (4, .pointer (some ⟨b4, 0, none⟩)), (5, .pointer (some ⟨b5, 0, none⟩)), (7, .bool true), (8, .pointer (some ⟨b8, 0, none⟩)), (10, .func (.func 40) #[] #[.pointer (some ⟨b4, 0, none⟩), .pointer (some ⟨b3, 0, none⟩), .pointer (some ⟨b5, 0, none⟩)]), (46, .slice (some ⟨b46, 0, none⟩) 4 4), (47, .int .i64 4), (48, .int .i64 k), (12, .pointer (some ⟨b12, 0, none⟩)), (13, .pointer (some ⟨b13, 0, none⟩)), (16, .int .i64 (all - z.taken.1 - z.fallen.1 - z.left.1)), (17, .int .i64 (psL z k2)), (18, .int .i64 (psH z k2)), (105, .agg #[.int .i64 z.g0.1, .int .i64 z.g0.2, .int .i64 z.g1.1, .int .i64 z.g1.2, .int .i64 z.g2.1, .int .i64 z.g2.2]), (106, .int .i64 k2)])
      (fun _ => (b13, .cells (encYd z) 55) :: (b12, .cells [.bool least, .bool few] 85) :: [(b46, .cells (PL.flatMap encBB) 85), (b8, .cells (encYd y) 55), (b5, .cells [.slice lo l.length lc] 47), (b4, .cells (encBn b ao c) 46), (b3, .cells (encFt f) 43)]) (fun k2 => 3 - k2) 0 (by omega) sb (fun w h => h) (fun k2 hk2 => ?_)
    have hps : ∀ j, (0 ≤ psL z j ∧ psL z j ≤ 10000000000) ∧ (0 ≤ psH z j ∧ psH z j ≤ 10000000000) := by
      intro j
      rcases j with _ | _ | _ | j <;> simp only [psL, psH] <;> omega
    have hps0 := hps 0
    have hps1 := hps 1
    have hps2 := hps 2
    have hk4 : k2 = 0 ∨ k2 = 1 ∨ k2 = 2 ∨ k2 = 3 := by omega
    rcases hk4 with rfl | rfl | rfl | rfl
    · repeat' (first | refine rn ?_ | (apply TL_box; exact rfl; exact rfl; exact rfl; intro _ _) | (apply TL_alloc; exact rfl; intro _ _) | (apply TL_buildSlice; exact rfl; exact rfl; exact rfl; exact rfl; exact rfl; intro _ _))
      refine TL_indexAn 0 rfl rfl rfl rfl (by omega) rfl ?_
      repeat' (first | refine rn ?_ | (apply TL_box; exact rfl; exact rfl; exact rfl; intro _ _) | (apply TL_alloc; exact rfl; intro _ _) | (apply TL_buildSlice; exact rfl; exact rfl; exact rfl; exact rfl; exact rfl; intro _ _))
      apply TC_draw 9; kernel_rfl; exact Try.mixed
      · iterate 9 (refine' pv ?_; rotate_left)
        exact PG.nil
      change TL _ _ _ _ _ _ _ _ _ _ _
      repeat' (first | refine rn ?_ | (apply TL_box; exact rfl; exact rfl; exact rfl; intro _ _) | (apply TL_alloc; exact rfl; intro _ _) | (apply TL_buildSlice; exact rfl; exact rfl; exact rfl; exact rfl; exact rfl; intro _ _))
      refine TQ_round (0 + 1) (by omega) (by omega) sb (fun w h => h.sub (List.Sublist.cons _ (List.Sublist.refl _)))
    · repeat' (first | refine rn ?_ | (apply TL_box; exact rfl; exact rfl; exact rfl; intro _ _) | (apply TL_alloc; exact rfl; intro _ _) | (apply TL_buildSlice; exact rfl; exact rfl; exact rfl; exact rfl; exact rfl; intro _ _))
      refine TL_indexAn 1 rfl rfl rfl rfl (by omega) rfl ?_
      repeat' (first | refine rn ?_ | (apply TL_box; exact rfl; exact rfl; exact rfl; intro _ _) | (apply TL_alloc; exact rfl; intro _ _) | (apply TL_buildSlice; exact rfl; exact rfl; exact rfl; exact rfl; exact rfl; intro _ _))
      apply TC_draw 9; kernel_rfl; exact Try.mixed
      · iterate 9 (refine' pv ?_; rotate_left)
        exact PG.nil
      change TL _ _ _ _ _ _ _ _ _ _ _
      repeat' (first | refine rn ?_ | (apply TL_box; exact rfl; exact rfl; exact rfl; intro _ _) | (apply TL_alloc; exact rfl; intro _ _) | (apply TL_buildSlice; exact rfl; exact rfl; exact rfl; exact rfl; exact rfl; intro _ _))
      refine TQ_round (1 + 1) (by omega) (by omega) sb (fun w h => h.sub (List.Sublist.cons _ (List.Sublist.refl _)))
    · repeat' (first | refine rn ?_ | (apply TL_box; exact rfl; exact rfl; exact rfl; intro _ _) | (apply TL_alloc; exact rfl; intro _ _) | (apply TL_buildSlice; exact rfl; exact rfl; exact rfl; exact rfl; exact rfl; intro _ _))
      refine TL_indexAn 2 rfl rfl rfl rfl (by omega) rfl ?_
      repeat' (first | refine rn ?_ | (apply TL_box; exact rfl; exact rfl; exact rfl; intro _ _) | (apply TL_alloc; exact rfl; intro _ _) | (apply TL_buildSlice; exact rfl; exact rfl; exact rfl; exact rfl; exact rfl; intro _ _))
      apply TC_draw 9; kernel_rfl; exact Try.mixed
      · iterate 9 (refine' pv ?_; rotate_left)
        exact PG.nil
      change TL _ _ _ _ _ _ _ _ _ _ _
      repeat' (first | refine rn ?_ | (apply TL_box; exact rfl; exact rfl; exact rfl; intro _ _) | (apply TL_alloc; exact rfl; intro _ _) | (apply TL_buildSlice; exact rfl; exact rfl; exact rfl; exact rfl; exact rfl; intro _ _))
      refine TQ_round (2 + 1) (by omega) (by omega) sb (fun w h => h.sub (List.Sublist.cons _ (List.Sublist.refl _)))
    · have p1 : psL z 3 ≤ all - z.taken.1 - z.fallen.1 - z.left.1 := by simp only [psL]; omega
      have p2 : all - z.taken.1 - z.fallen.1 - z.left.1 ≤ psH z 3 := by simp only [psH]; omega
      generalize psL z 3 = u1 at p1 ⊢
      generalize psH z 3 = u2 at p2 ⊢
      cases least with
      | true =>
        cases few with
        | true =>
          have W := e8 rfl rfl
          repeat' (first | (refine TL_gtr_f rfl rfl rfl (by omega) ?_) | (refine TL_lss_f rfl rfl rfl (by omega) ?_) | (refine TL_eqlB2 rfl Try.underlying4 rfl rfl ?_) | (refine TL_neq_f rfl rfl rfl (by omega) ?_) | refine r1 ?_ | (apply TL_box; exact rfl; exact rfl; exact rfl; intro _ _) | (apply TL_alloc; exact rfl; intro _ _) | (apply TL_buildSlice; exact rfl; exact rfl; exact rfl; exact rfl; exact rfl; intro _ _))
          refine TQ_round (k + 1) (by omega) (by omega) sb (fun w h => h.sub (List.Sublist.cons _ (List.Sublist.cons _ (List.Sublist.refl _))))
        | false =>
          have W := e6 rfl rfl
          repeat' (first | (refine TL_gtr_f rfl rfl rfl (by omega) ?_) | (refine TL_lss_f rfl rfl rfl (by omega) ?_) | (refine TL_eqlB2 rfl Try.underlying4 rfl rfl ?_) | (refine TL_neq_f rfl rfl rfl (by omega) ?_) | refine r1 ?_ | (apply TL_box; exact rfl; exact rfl; exact rfl; intro _ _) | (apply TL_alloc; exact rfl; intro _ _) | (apply TL_buildSlice; exact rfl; exact rfl; exact rfl; exact rfl; exact rfl; intro _ _))
          refine TQ_round (k + 1) (by omega) (by omega) sb (fun w h => h.sub (List.Sublist.cons _ (List.Sublist.cons _ (List.Sublist.refl _))))
      | false =>
        cases few with
        | true =>
          have W := e7 rfl rfl
          repeat' (first | (refine TL_gtr_f rfl rfl rfl (by omega) ?_) | (refine TL_lss_f rfl rfl rfl (by omega) ?_) | (refine TL_eqlB2 rfl Try.underlying4 rfl rfl ?_) | (refine TL_neq_f rfl rfl rfl (by omega) ?_) | refine r1 ?_ | (apply TL_box; exact rfl; exact rfl; exact rfl; intro _ _) | (apply TL_alloc; exact rfl; intro _ _) | (apply TL_buildSlice; exact rfl; exact rfl; exact rfl; exact rfl; exact rfl; intro _ _))
          refine TQ_round (k + 1) (by omega) (by omega) sb (fun w h => h.sub (List.Sublist.cons _ (List.Sublist.cons _ (List.Sublist.refl _))))
        | false =>
          have W := e9 rfl rfl
          repeat' (first | (refine TL_gtr_f rfl rfl rfl (by omega) ?_) | (refine TL_lss_f rfl rfl rfl (by omega) ?_) | (refine TL_eqlB2 rfl Try.underlying4 rfl rfl ?_) | (refine TL_neq_f rfl rfl rfl (by omega) ?_) | refine r1 ?_ | (apply TL_box; exact rfl; exact rfl; exact rfl; intro _ _) | (apply TL_alloc; exact rfl; intro _ _) | (apply TL_buildSlice; exact rfl; exact rfl; exact rfl; exact rfl; exact rfl; intro _ _))
          refine TQ_round (k + 1) (by omega) (by omega) sb (fun w h => h.sub (List.Sublist.cons _ (List.Sublist.cons _ (List.Sublist.refl _))))
  · repeat' (first | refine rn ?_ | (apply TL_box; exact rfl; exact rfl; exact rfl; intro _ _) | (apply TL_alloc; exact rfl; intro _ _) | (apply TL_buildSlice; exact rfl; exact rfl; exact rfl; exact rfl; exact rfl; intro _ _))
    exact TQ_ret1 Try.results8 (RV.tmp rfl) (fun w' hs => ⟨rfl, hs.below⟩)
end Go.Proofs.Ytccgplomnjpniaa
