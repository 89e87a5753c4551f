/- Walks: the statement TopShares. -/
import Derived.Test.YtkpkebpofpcmaaaGreatDoorEngR
import Derived.Test.YtkpkebpofpcmaaaGreatDoorS11
import Derived.Test.YtkpkebpofpcmaaaGreatDoorR5
namespace Go.Proofs.YtkpkebpofpcmaaaGreatDoor
open Go Go.Eng Go.RowKit Go.Proofs
set_option maxHeartbeats 4000000
set_option maxRecDepth 10000
attribute [local irreducible] TL TC TQ

def dryC (c : Cn) : Cn := ⟨c.fr, (0, 0), (0, 0)⟩
def dryT (j : Nat) (l : List Cn) : List Cn := (l.take j).map dryC ++ l.drop j
theorem dryT_len (j : Nat) (l : List Cn) : (dryT j l).length = l.length := by
  simp only [dryT, List.length_append, List.length_map, List.length_take, List.length_drop]; omega
theorem dryT_get {j : Nat} {l : List Cn} {c : Cn} (h : l[j]? = some c) : (dryT j l)[j]? = some c := by
  have hj := (List.getElem?_eq_some_iff.1 h).1
  unfold dryT
  rw [List.getElem?_append_right (by simp; omega), List.length_map, List.length_take, List.getElem?_drop, show j + (j - min j l.length) = j by omega, h]
theorem dryT_set {j : Nat} {l : List Cn} {c : Cn} (h : l[j]? = some c) : (dryT j l).set j (dryC c) = dryT (j + 1) l := by
  have hj := (List.getElem?_eq_some_iff.1 h).1
  have e : l.drop j = c :: l.drop (j + 1) := by
    rw [List.drop_eq_getElem_cons hj]
    rw [List.getElem?_eq_getElem hj] at h
    rw [Option.some.inj h]
  unfold dryT
  have hl : ((l.take j).map dryC).length = j := by simp; omega
  rw [List.set_append_right _ _ (by omega), hl, Nat.sub_self, e, List.set_cons_zero, List.take_add_one, h]
  simp
theorem dryT_zero (l : List Cn) : dryT 0 l = l := by simp [dryT]
theorem dryT_all (l : List Cn) : dryT l.length l = l.map dryC := by simp [dryT]
theorem int_row (b k : Nat) (hk : k ≤ 1000) : Row 3 1 encI (some ⟨b, 0, none⟩) k [(b, .cells (List.replicate k (Value.int .i64 0)) 3)] (List.replicate k (0 : Int)) := by
  have e : (List.replicate k (0 : Int)).flatMap encI = List.replicate k (Value.int .i64 0) := by
    clear hk
    induction k with
    | zero => rfl
    | succ k ih => rw [List.replicate_succ, List.flatMap_cons, ih, List.replicate_succ]; rfl
  exact ⟨fun x _ => ⟨rfl, rfl⟩, .inr ⟨b, [], rfl, by rw [e, List.append_nil], by simp, by unfold maxLen; omega, by rw [e]; simp⟩⟩
theorem sl_setD {α : Type} {l : List α} {i : Nat} {u u' : α} (h : l[i]? = some u) : (l.set i u')[i]? = some u' := List.getElem?_set_self (List.getElem?_eq_some_iff.1 h).1
theorem perm3 {a b c : Hp} : (a ++ b ++ c).Perm (b ++ (a ++ c)) := by rw [← List.append_assoc]; exact List.perm_append_comm.append_right c
def dryN (n : Nt) (days : Int) (co : Option Addr) (cc : Nat) (fo : Option Addr) (fc : Nat) : Nt := ⟨n.canals.map dryC, n.fields, n.dry, days, co, cc, fo, fc⟩
theorem dryN_noS (n : Nt) (days : Int) (co : Option Addr) (cc : Nat) (fo : Option Addr) (fc : Nat) : NoS (dryN n days co cc fo fc) := fun c hc => by
  obtain ⟨x, _, rfl⟩ := List.mem_map.1 (show c ∈ n.canals.map dryC from hc)
  exact ⟨rfl, rfl⟩
theorem SInv.bd {n : Nt} {us : List Us} {ms : List Int} {on cur : Int} (h : SInv n us ms on cur) (hd : 0 ≤ n.days) : (∀ x ∈ ms, 0 ≤ x ∧ x ≤ n.days * 1440) ∧ 0 ≤ sumI ms ∧ on ≤ cur := by
  have h1 : ∀ x ∈ ms, 0 ≤ x ∧ x ≤ n.days * 1440 := fun x hx => by
    obtain ⟨i, hi⟩ := List.getElem?_of_mem hx
    have hl := (List.getElem?_eq_some_iff.1 hi).1
    rw [h.m i (by have := h.len; omega)] at hi
    cases hi
    have := minU_bd (n := n) (i : Int) h.rt (by omega)
    omega
  have h2 := sum_nn ms (fun x hx => (h1 x hx).1)
  exact ⟨h1, h2, by have := h.tot; omega⟩
structure ShQ where
  j : Nat
  us : List Us
  ms : List Int
  on : Int
  cur : Int
  so : Option Addr
  sc : Nat
  ob : Hp
  mb : Hp
theorem nthM_bd {l : List Int} (h : ∀ x ∈ l, 0 ≤ x ∧ x ≤ 4294967295) (i : Int) : 0 ≤ nthM l i ∧ nthM l i ≤ 4294967295 := by
  unfold nthM
  split
  · omega
  · rw [List.getD_eq_getElem?_getD]
    cases hg : l[(i % (l.length : Int)).toNat]? with
    | none => simp
    | some x => exact h x (List.mem_of_getElem? hg)
theorem c6 (n : Nt) (f : Sp) (r : Ro) (ds : List Dd) (da : Option Addr) (dc : Nat) (day : Int) (by_ : List Int) (bo : Option Addr) (bc : Nat) (hnb : ∀ x ∈ by_, 0 ≤ x ∧ x ≤ 4294967295) (w : World) (hnc : Sl w 5 encCn n.cao n.canals) (hnf : Sl w 1 encI n.fao n.fields) (hr : Sl w 3 encHo r.ao r.holds) (hds : Sl w 9 encDd da ds) (hdh : ∀ x ∈ ds, Sl w 2 encSp x.ao x.heirs) (hby : Sl w 1 encU bo by_) (hv : Nv w) :
    Calls Tryz.prog 6 #[.agg (encNt n).toArray, .agg (encSp f).toArray, .agg (encRo r).toArray, .slice da ds.length dc, .int .i64 day, .slice bo by_.length bc] w (RetV w (.bool true)) := by
  have el : (n.canals.map dryC).length = n.canals.length := List.length_map _
  refine enter (args := [.agg (encNt n).toArray, .agg (encSp f).toArray, .agg (encRo r).toArray, .slice da ds.length dc, .int .i64 day, .slice bo by_.length bc]) Tryz.func6 rfl Tryz.ntmps6 rfl (SH.refl _) ?_
  repeat' (first | refine rn ?_ | (refine zb ?_; intro _ _) | (refine za ?_; intro _ _) | (refine zs ?_; intro _ _))
  rename_i b6 _ b7 _ b8 _
  refine TL_callV rfl rfl rfl (fun w h => c27 w (hv.mono h.below)) ?_
  repeat' (first | refine rn ?_ | (refine zb ?_; intro _ _) | (refine za ?_; intro _ _) | (refine zs ?_; intro _ _))
  refine TL_callV rfl rfl rfl (fun w h => c15 n w) ?_
  repeat' (first | refine rn ?_ | (refine zb ?_; intro _ _) | (refine za ?_; intro _ _) | (refine zs ?_; intro _ _))
  refine TL_gsplit_dec rfl rfl (fun g1 => ?_) (fun g1 => ?_)
  · repeat' (first | refine rn ?_ | (refine zb ?_; intro _ _) | (refine za ?_; intro _ _) | (refine zs ?_; intro _ _))
    exact TQ_ret1 Tryz.results6 (RV.tmp rfl) (fun w' hs => ⟨rfl, hs.below⟩)
  repeat' (first | refine rn ?_ | (refine zb ?_; intro _ _) | (refine za ?_; intro _ _) | (refine zs ?_; intro _ _))
  refine TL_callV rfl rfl rfl (fun w h => c22 r ds da dc w (h.sl hds)) ?_
  cases hg : grtD r ds with
  | true =>
    repeat' (first | refine rn ?_ | (refine zb ?_; intro _ _) | (refine za ?_; intro _ _) | (refine zs ?_; intro _ _))
    exact TQ_ret1 Tryz.results6 (RV.tmp rfl) (fun w' hs => ⟨rfl, hs.below⟩)
  | false =>
  repeat' (first | refine rn ?_ | (refine zb ?_; intro _ _) | (refine za ?_; intro _ _) | (refine zs ?_; intro _ _))
  refine TL_gsplit_dec rfl rfl (fun g2 => ?_) (fun g2 => ?_)
  · repeat' (first | refine rn ?_ | (refine zb ?_; intro _ _) | (refine za ?_; intro _ _) | (refine zs ?_; intro _ _))
    exact TQ_ret1 Tryz.results6 (RV.tmp rfl) (fun w' hs => ⟨rfl, hs.below⟩)
  repeat' (first | refine rn ?_ | (refine zb ?_; intro _ _) | (refine za ?_; intro _ _) | (refine zs ?_; intro _ _))
  refine TL_gsplit_dec rfl rfl (fun g3 => ?_) (fun g3 => ?_)
  · repeat' (first | refine rn ?_ | (refine zb ?_; intro _ _) | (refine za ?_; intro _ _) | (refine zs ?_; intro _ _))
    exact TQ_ret1 Tryz.results6 (RV.tmp rfl) (fun w' hs => ⟨rfl, hs.below⟩)
  repeat' (first | refine rn ?_ | (refine zb ?_; intro _ _) | (refine za ?_; intro _ _) | (refine zs ?_; intro _ _))
  refine TC_cond_dec rfl (fun g4 => ?_) (fun g4 => ?_)
  · repeat' (first | refine rn ?_ | (refine zb ?_; intro _ _) | (refine za ?_; intro _ _) | (refine zs ?_; intro _ _))
    exact TQ_ret1 Tryz.results6 (RV.tmp rfl) (fun w' hs => ⟨rfl, hs.below⟩)
  have hf : Ord f 0 13000000 := by unfold Ord; omega
  have hg1 : n.canals.length ≤ 24 := by unfold greatT at g1; omega
  have hg2 : n.fields.length ≤ 18 := by unfold greatT at g1; omega
  unfold grtD at hg
  have hg := of_decide_eq_false hg
  have hrn : Small r.holds.length := by unfold Small; omega
  have hd : DdsAt w da ds := ⟨hds, hdh, by unfold Small; omega, fun x hx => by
    have : ¬ 12 < (x.heirs.length : Int) := fun h => hg (.inr (.inr ⟨x, hx, h⟩))
    unfold Small; omega⟩
  repeat' (first | refine rn ?_ | (refine zb ?_; intro _ _) | (refine za ?_; intro _ _) | (refine zs ?_; intro _ _))
  refine TL_callN rfl rfl rfl (fun w h => c28 n hg1 hg2 w (h.sl hnc) (h.sl hnf)) ?_
  rintro ⟨⟨co, cc, cb⟩, ⟨fo, fc, fb⟩⟩ ⟨hrc, hrf⟩
  dsimp only at hrc hrf ⊢
  repeat' (first | refine rn ?_ | (refine zb ?_; intro _ _) | (refine za ?_; intro _ _) | (refine zs ?_; intro _ _))
  refine TC_loop (σ := Nat × Hp) (fun q => q.1 ≤ n.canals.length ∧ RowE 87 5 encCn co cc q.2 (dryT q.1 n.canals)) (fun q => [(3, .slice da ds.length dc), (4, .int .i64 day), (5, .slice bo by_.length bc), (6, .pointer (some ⟨b6, 0, none⟩)), (7, .pointer (some ⟨b7, 0, none⟩)), (8, .pointer (some ⟨b8, 0, none⟩)), (13, .bool true), (69, .int .i64 n.canals.length), (70, .int .i64 q.1)]) (fun q => q.2 ++ (fb ++ [(b8, Blk.cells (encRo r) 43), (b7, Blk.cells (encSp f) 25), (b6, Blk.cells [.slice co n.canals.length cc, .slice fo n.fields.length fc, .int .i64 n.dry, .int .i64 r.days] 57)])) (fun q => n.canals.length - q.1) (0, cb) ⟨Nat.zero_le _, by rw [dryT_zero]; exact hrc⟩ sb (fun w h => h.perm (perm3 (a := fb) (b := cb)).symm) (fun q hq => ?_)
  obtain ⟨j, ob⟩ := q
  obtain ⟨hj, hrow⟩ := hq
  dsimp only at hj hrow ⊢
  repeat' (first | refine rn ?_ | (refine zb ?_; intro _ _) | (refine za ?_; intro _ _) | (refine zs ?_; intro _ _))
  refine TC_cond_dec rfl (fun g5 => ?_) (fun g5 => ?_)
  · have hlt : j < n.canals.length := by omega
    obtain ⟨c, hc⟩ : ∃ c, n.canals[j]? = some c := ⟨_, List.getElem?_eq_getElem hlt⟩
    have hdl := dryT_len j n.canals
    have hne : dryT j n.canals ≠ [] := fun e => by rw [e] at hdl; simp at hdl; omega
    have hr0 := hrow.row hne
    obtain ⟨bb, cs, cs', rfl, rfl, hput, hr1⟩ := hr0.put (i := j) (off := 1) (vs := [.int .i64 0, .int .i64 0]) (u := c) (u' := { c with seep := (0, 0) }) (dryT_get hc) rfl rfl
    obtain ⟨b', cs1, cs2, e1, e2, hput2, hr2⟩ := hr1.put (i := j) (off := 3) (vs := [.int .i64 0, .int .i64 0]) (u := { c with seep := (0, 0) }) (u' := dryC c) (sl_setD (dryT_get hc)) rfl rfl
    cases e1
    cases e2
    have hsl : ∀ (H : Hp) w', (bb, .cells cs 87) ∈ H → SH w.heap.size w w' H → Sl w' 5 encCn (some ⟨bb, 0, none⟩) (dryT j n.canals) := fun H w' hm h => hr0.sl h (fun p hp => by rw [List.mem_singleton.1 hp]; exact hm)
    have hsl1 : ∀ (H : Hp) w', (bb, .cells cs' 87) ∈ H → SH w.heap.size w w' H → Sl w' 5 encCn (some ⟨bb, 0, none⟩) ((dryT j n.canals).set j { c with seep := (0, 0) }) := fun H w' hm h => hr1.sl h (fun p hp => by rw [List.mem_singleton.1 hp]; exact hm)
    have hputa : putN (0 + (j * 5 + (0 + 1))) [.int .i64 0, .int .i64 0] cs = some cs' := by rw [Nat.zero_add, Nat.zero_add]; exact hput
    have hputb : putN (0 + (j * 5 + (0 + 3))) [.int .i64 0, .int .i64 0] cs' = some cs2 := by rw [Nat.zero_add, Nat.zero_add]; exact hput2
    have hne1 : (dryT j n.canals).set j { c with seep := (0, 0) } ≠ [] := fun e => by
      have h0 : ((dryT j n.canals).set j { c with seep := (0, 0) }).length = 0 := by rw [e]; rfl
      rw [List.length_set] at h0; omega
    rw [List.set_set, dryT_set hc] at hr2
    repeat' (first | refine rn ?_ | (refine zb ?_; intro _ _) | (refine za ?_; intro _ _) | (refine zs ?_; intro _ _))
    apply TC_draw5 11 10 200 0 [8, 9]; exact rfl; kernel_rfl; exact rfl; exact Tryz.mixed; exact rfl
    · iterate 8 (refine' pv5 ?_; rotate_left)
      (refine' PG5.vale rfl rfl rfl (by rintro  _X; refine TL_index j rfl rfl rfl (fun w h => hsl _ w mm h) rfl (by omega) (by omega) ?_; exact qe) ?_; rotate_left)
      (refine' PG5.vale rfl rfl rfl (by rintro  _X; refine TL_fieldAddr_el rfl rfl (fun w h => hsl _ w mm h) hne ?_; exact qe) ?_; rotate_left)
      (refine' PG5.sto ([(bb, .cells cs' 87)]) rfl rfl (by intro _X; refine TL_store (b := bb) (cs := cs) (cs' := cs') (T := 87) rfl rfl rfl rfl rfl up hputa ?_; exact TL_nil (TQ_QD (fun _ h => h))) ?_; rotate_left)
      exact PG5.nil
    rintro _ _ rfl
    change TL _ _ _ _ _ _ _ _ _ _ _
    refine TL_index j rfl rfl rfl (fun w h => hsl1 _ w (List.mem_append_left _ (List.Mem.head _)) h) rfl (by rw [List.length_set]; omega) (by rw [List.length_set]; omega) ?_
    refine TL_fieldAddr_el rfl rfl (fun w h => hsl1 _ w (List.mem_append_left _ (List.Mem.head _)) h) hne1 ?_
    refine TL_store (b := bb) (cs := cs') (cs' := cs2) (T := 87) rfl rfl rfl rfl rfl (by exact Upd.head) hputb ?_
    repeat' (first | refine rn ?_ | (refine zb ?_; intro _ _) | (refine za ?_; intro _ _) | (refine zs ?_; intro _ _))
    exact TQ_round (j + 1, [(bb, .cells cs2 87)]) ⟨hlt, .inl hr2⟩ (by dsimp only; omega) sb (fun w h => h)
  obtain rfl : j = n.canals.length := by omega
  rw [dryT_all] at hrow
  clear hrc
  rw [← el]
  repeat' (first | refine rn ?_ | (refine zb ?_; intro _ _) | (refine za ?_; intro _ _) | (refine zs ?_; intro _ _))
  refine TL_callN rfl rfl rfl (fun w h => c16 (dryN n r.days co cc fo fc) (by unfold greatT; dsimp only [dryN]; rw [el]; omega) w (hrow.sl h (fun p hp => List.mem_append_left _ hp)) (hrf.sl h (fun p hp => List.mem_append_right _ (List.mem_append_left _ hp)))) ?_
  intro e5 he5
  repeat' (first | refine rn ?_ | (refine zb ?_; intro _ _) | (refine za ?_; intro _ _) | (refine zs ?_; intro _ _))
  refine TC_cond_dec rfl (fun g6 => ?_) (fun g6 => ?_)
  · repeat' (first | refine rn ?_ | (refine zb ?_; intro _ _) | (refine za ?_; intro _ _) | (refine zs ?_; intro _ _))
    exact TQ_ret1 Tryz.results6 (RV.tmp rfl) (fun w' hs => ⟨rfl, hs.below⟩)
  have hok : OkNt (dryN n r.days co cc fo fc) := he5 (Classical.not_not.1 g6)
  repeat' (first | refine rn ?_ | (refine zb ?_; intro _ _) | (refine za ?_; intro _ _) | (refine zs ?_; intro _ _))
  refine TL_callN rfl rfl rfl (fun w h => c24 r ds da dc day w (h.sl hr) hrn ⟨h.sl hd.s, fun x hx => h.sl (hd.h x hx), hd.n, hd.hn⟩) ?_
  rintro ⟨⟨o1, oc, ox⟩, ⟨uo, uc, ub⟩⟩ hu
  have hch := uM_ch (r := r) (l := ds) (day := day)
  have hwho := useR_nn (r := r) (l := ds) (day := day)
  obtain ⟨U, hU⟩ : ∃ U, U = uM r ds day := ⟨_, rfl⟩
  have hRd : useR r ds day = if U.1 = 0 then runsM (fun p => userP p day) U.2.1 else [] := by rw [hU]; rfl
  rw [← hU] at hch hwho ⊢
  obtain ⟨R, hR⟩ : ∃ R, R = useR r ds day := ⟨_, rfl⟩
  rw [← hR] at hu hRd hwho ⊢
  dsimp only at hu ⊢
  repeat' (first | refine rn ?_ | (refine zb ?_; intro _ _) | (refine za ?_; intro _ _) | (refine zs ?_; intro _ _))
  refine TL_gsplit_dec rfl rfl (fun g7 => ?_) (fun g7 => ?_)
  · repeat' (first | refine rn ?_ | (refine zb ?_; intro _ _) | (refine za ?_; intro _ _) | (refine zs ?_; intro _ _))
    exact TQ_ret1 Tryz.results6 (RV.tmp rfl) (fun w' hs => ⟨rfl, hs.below⟩)
  repeat' (first | refine rn ?_ | (refine zb ?_; intro _ _) | (refine za ?_; intro _ _) | (refine zs ?_; intro _ _))
  refine TC_cond_dec rfl (fun g8 => ?_) (fun g8 => ?_)
  · repeat' (first | refine rn ?_ | (refine zb ?_; intro _ _) | (refine za ?_; intro _ _) | (refine zs ?_; intro _ _))
    exact TQ_ret1 Tryz.results6 (RV.tmp rfl) (fun w' hs => ⟨rfl, hs.below⟩)
  have h0 : U.1 = 0 := Classical.not_not.1 g7
  obtain ⟨hro, _, hcp⟩ := hch h0
  have hwho := hwho h0
  rw [if_pos h0] at hRd
  obtain ⟨hend, hend2, hend3⟩ := endR_eq hro
  have hPne : U.2.1 ≠ [] := fun e => by rw [e] at hcp; simp [chP] at hcp; omega
  obtain ⟨hcR, _⟩ := runsM_ok (fun p => userP p day) hcp hPne
  rw [← hRd] at hcR
  have hR60 : R.length ≤ 60 := by omega
  repeat' (first | refine rn ?_ | (refine zb ?_; intro _ _) | (refine za ?_; intro _ _) | (refine zs ?_; intro _ _))
  refine TL_makeSlice1 n.fields.length rfl rfl rfl rfl rfl (by omega) (by omega) (by kernel_rfl) rfl (fun bM _ => ?_)
  repeat' (first | refine rn ?_ | (refine zb ?_; intro _ _) | (refine za ?_; intro _ _) | (refine zs ?_; intro _ _))
  refine TC_loop (σ := ShQ) (fun q => q.j ≤ R.length ∧ SInv (dryN n r.days co cc fo fc) q.us q.ms q.on q.cur ∧ chHo (endR r) q.cur (R.drop q.j) ∧ q.us.length ≤ q.j ∧ Row 73 3 encUs q.so q.sc q.ob q.us ∧ Row 3 1 encI (some ⟨bM, 0, none⟩) n.fields.length q.mb q.ms) (fun q => [(3, .slice da ds.length dc), (4, .int .i64 day), (5, .slice bo by_.length bc), (6, .pointer (some ⟨b6, 0, none⟩)), (7, .pointer (some ⟨b7, 0, none⟩)), (8, .pointer (some ⟨b8, 0, none⟩)), (13, .bool true), (18, .slice q.so q.us.length q.sc), (19, .slice (some ⟨bM, 0, none⟩) n.fields.length n.fields.length), (20, .int .i64 q.on), (110, .slice uo R.length uc), (111, .int .i64 R.length), (112, .int .i64 q.j)]) (fun q => q.ob ++ (q.mb ++ (ub ++ (ob ++ (fb ++ [(b8, Blk.cells (encRo r) 43), (b7, Blk.cells (encSp f) 25), (b6, Blk.cells [.slice co (n.canals.map dryC).length cc, .slice fo n.fields.length fc, .int .i64 n.dry, .int .i64 r.days] 57)]))))) (fun q => R.length - q.j) ⟨0, [], List.replicate n.fields.length 0, 0, 0, none, 0, [], [(bM, .cells (List.replicate n.fields.length (.int .i64 0)) 3)]⟩ ⟨Nat.zero_le _, SInv.zero (dryN n r.days co cc fo fc), hcR, Nat.zero_le _, Row.nil _ _ _, int_row _ _ (by omega)⟩ sb (fun w h => h) (fun q hq => ?_)
  obtain ⟨j, us, ms, on, cur, so, sc, xb, mb⟩ := q
  obtain ⟨hj, hI, hcj, husl, hrow2, hrowm⟩ := hq
  dsimp only at hj hI hcj husl hrow2 hrowm ⊢
  have hnd : 0 ≤ r.days * 1440 ∧ r.days * 1440 ≤ 23040 := by omega
  obtain ⟨hms, hsm, honc⟩ := hI.bd (show (0 : Int) ≤ ((dryN n r.days co cc fo fc)).days from by show 0 ≤ r.days; omega)
  have hon0 := hI.on0
  have hc0 := hI.c0
  have hmsl : ms.length = n.fields.length := hI.len
  repeat' (first | refine rn ?_ | (refine zb ?_; intro _ _) | (refine za ?_; intro _ _) | (refine zs ?_; intro _ _))
  refine TC_cond_dec rfl (fun g9 => ?_) (fun g9 => ?_)
  · have hlt : j < R.length := by omega
    obtain ⟨ho, hho⟩ : ∃ x, R[j]? = some x := ⟨_, List.getElem?_eq_getElem hlt⟩
    have hdr : R.drop j = ho :: R.drop (j + 1) := by
      rw [List.drop_eq_getElem_cons hlt]
      rw [List.getElem?_eq_getElem hlt] at hho
      rw [Option.some.inj hho]
    rw [hdr] at hcj
    obtain ⟨t1, t2, hcj2⟩ := hcj
    have t3 := (chHo_mem hcj2).1
    subst t1
    have hw0 := hwho ho (List.mem_of_getElem? hho)
    have hnt := nthM_bd hnb ho.who
    have hwr := u32_wrap hnt
    have k1 : 0 ≤ nthM by_ ho.who % ((n.fields.length : Int) + 1) := Int.emod_nonneg _ (by omega)
    have k2 : nthM by_ ho.who % ((n.fields.length : Int) + 1) < (n.fields.length : Int) + 1 := Int.emod_lt_of_pos _ (by omega)
    obtain ⟨k, hk⟩ : ∃ k : Nat, nthM by_ ho.who % ((n.fields.length : Int) + 1) = (k : Int) := ⟨_, (Int.toNat_of_nonneg k1).symm⟩
    rw [hk] at k2
    clear k1
    repeat' (first | refine rn ?_ | (refine zb ?_; intro _ _) | (refine za ?_; intro _ _) | (refine zs ?_; intro _ _))
    refine TL_index j rfl rfl rfl (fun w h => hu.sl h (fun p hp => List.mem_append_right _ (List.mem_append_right _ (List.mem_append_left _ hp)))) rfl hlt (Nat.le_refl _) ?_
    refine TL_load_eln (u := ho) rfl rfl (fun w h => hu.sl h (fun p hp => List.mem_append_right _ (List.mem_append_right _ (List.mem_append_left _ hp)))) hho rfl ?_
    repeat' (first | refine rn ?_ | (refine zb ?_; intro _ _) | (refine za ?_; intro _ _) | (refine zs ?_; intro _ _))
    rename_i b22 _
    apply TC_draw 10; kernel_rfl; exact Tryz.mixed
    · iterate 3 (refine' pv ?_; rotate_left)
      (refine' PG.val rfl rfl (by intro _X; refine TL_callV rfl rfl rfl (fun w h => c29 by_ bo bc ho.who hw0 w (h.sl hby)) ?_; exact qe) ?_; rotate_left)
      (refine' PG.val rfl rfl (by intro _X; refine TL_conv_same rfl rfl hwr ?_; exact qe) ?_; rotate_left)
      iterate 4 (refine' pv ?_; rotate_left)
      (refine' PG.val rfl rfl (by intro _X; refine TL_rem_nn rfl rfl rfl (by omega) (by omega) ?_; exact qe) ?_; rotate_left)
      exact PG.nil
    change TL _ _ _ _ _ _ _ _ _ _ _
    rw [hk]
    repeat' (first | refine rn ?_ | (refine zb ?_; intro _ _) | (refine za ?_; intro _ _) | (refine zs ?_; intro _ _))
    refine TC_cond_dec rfl (fun g10 => ?_) (fun g10 => ?_)
    · repeat' (first | refine rn ?_ | (refine zb ?_; intro _ _) | (refine za ?_; intro _ _) | (refine zs ?_; intro _ _))
      exact TQ_round ⟨j + 1, us, ms, on + (ho.turn.2 - ho.turn.1), ho.turn.2, so, sc, xb, mb⟩ ⟨hlt, hI.skip t2, hcj2, by dsimp only; omega, hrow2, hrowm⟩ (by dsimp only; omega) sb (fun w h => h.sub (List.Sublist.cons _ (List.Sublist.refl _)))
    · have hkl : k < n.fields.length := by omega
      obtain ⟨v, hv⟩ : ∃ v, ms[k]? = some v := ⟨_, List.getElem?_eq_getElem (by omega)⟩
      have hvg : ms.getD k 0 = v := by rw [List.getD_eq_getElem?_getD, hv]; rfl
      have hvb := hms v (List.mem_of_getElem? hv)
      have hvb2 : 0 ≤ v ∧ v ≤ r.days * 1440 := hvb
      have hIt := hI.take t2 (show ho.turn.2 ≤ r.days * 1440 by omega) (k := k) hkl
      rw [hvg] at hIt
      have hul : (us ++ [(⟨(k : Int), ho.turn⟩ : Us)]).length = us.length + 1 := by simp
      repeat' (first | refine rn ?_ | (refine zb ?_; intro _ _) | (refine za ?_; intro _ _) | (refine zs ?_; intro _ _))
      refine TL_append (l := us) (l2 := [⟨(k : Int), ho.turn⟩]) (enc := encUs) (G := _) rfl (by rfl) rfl rfl rfl rfl rfl hrow2 (pm_cons (pm_cons pm_here)) (fun w h => Sl.of_blk h (List.Mem.head _) (fun _ _ => rfl) ⟨[], by rfl⟩) (fun u _ => rfl) (by simp only [List.length_singleton]; omega) (by simp only [List.length_singleton, maxLen]; omega) (fun so' sc' xb' hrow2' => ?_)
      repeat' (first | refine rn ?_ | (refine zb ?_; intro _ _) | (refine za ?_; intro _ _) | (refine zs ?_; intro _ _))
      refine TL_index k rfl rfl rfl (fun w h => hrowm.sl h (fun p hp => by repeat (first | exact List.mem_append_left _ hp | apply List.mem_append_right | apply List.mem_cons_of_mem))) rfl (by omega) (by omega) ?_
      refine TL_load_el1 (u := v) rfl rfl (fun w h => hrowm.sl h (fun p hp => by repeat (first | exact List.mem_append_left _ hp | apply List.mem_append_right | apply List.mem_cons_of_mem))) hv rfl ?_
      repeat' (first | refine rn ?_ | (refine zb ?_; intro _ _) | (refine za ?_; intro _ _) | (refine zs ?_; intro _ _))
      refine TL_index k rfl rfl rfl (fun w h => hrowm.sl h (fun p hp => by repeat (first | exact List.mem_append_left _ hp | apply List.mem_append_right | apply List.mem_cons_of_mem))) rfl (by omega) (by omega) ?_
      refine TL_store_el (enc := encI) (i := k) (off := 0) (u := v) (u' := v + (ho.turn.2 - ho.turn.1)) (fun o => _ ++ (_ :: _ :: (o ++ _))) hrowm rfl rfl rfl rfl rfl rfl hv rfl rfl (fun _ _ _ => up) (fun mb' hrowm' => ?_)
      repeat' (first | refine rn ?_ | (refine zb ?_; intro _ _) | (refine za ?_; intro _ _) | (refine zs ?_; intro _ _))
      exact TQ_round ⟨j + 1, us ++ [⟨(k : Int), ho.turn⟩], ms.set k (v + (ho.turn.2 - ho.turn.1)), on, ho.turn.2, so', sc', xb', mb'⟩ ⟨hlt, hIt, hcj2, by dsimp only; omega, hrow2', hrowm'⟩ (by dsimp only; omega) sb (fun w h => h.sub (List.Sublist.append_left (List.Sublist.cons _ (List.Sublist.cons _ (List.Sublist.refl _))) _))
  obtain rfl : j = R.length := by omega
  rw [List.drop_length] at hcj
  have hcur : cur = endR r := hcj
  repeat' (first | refine rn ?_ | (refine zb ?_; intro _ _) | (refine za ?_; intro _ _) | (refine zs ?_; intro _ _))
  refine TL_callN rfl rfl rfl (fun w h => c20 (dryN n r.days co cc fo fc) hok f hf us so sc (by omega) hI.rt w (hrow.sl h (fun p hp => by repeat (first | exact List.mem_append_left _ hp | apply List.mem_append_right))) (hrf.sl h (fun p hp => by repeat (first | exact List.mem_append_left _ hp | apply List.mem_append_right))) (hrow2.sl h (fun p hp => List.mem_append_left _ hp))) ?_
  rintro ⟨bF, bL, cF, cL, F, L⟩ ⟨hF, hL, _, _, dls, hd2, he⟩
  dsimp only at hF hL he
  obtain ⟨hFl, hLd, hFg⟩ := wat_dry hok (dryN_noS n r.days co cc fo fc) hf hI.rt hd2 he
  have hFl : F.length = n.fields.length := hFl
  have hLl : L.length = n.canals.length := by rw [hLd, List.length_replicate]; exact el
  have f1 : ((dryN n r.days co cc fo fc)).fields.length = n.fields.length := rfl
  rw [f1] at hF ⊢
  repeat' (first | refine rn ?_ | (refine zb ?_; intro _ _) | (refine za ?_; intro _ _) | (refine zs ?_; intro _ _))
  refine TC_cond_dec rfl (fun g11 => absurd rfl g11) (fun g11 => ?_)
  have f2 : ((dryN n r.days co cc fo fc)).canals.length = n.canals.length := el
  rw [f2] at hL ⊢
  dsimp only
  have hsb : sumI ms ≤ 23040 := by have := hI.tot; omega
  repeat' (first | refine rn ?_ | (refine zb ?_; intro _ _) | (refine za ?_; intro _ _) | (refine zs ?_; intro _ _))
  rename_i b28 _
  have hmb : ∀ x, 0 ≤ x → x ≤ 23040 → (0 ≤ f.1 * x ∧ f.1 * x ≤ 300000000000) ∧ 0 ≤ f.2 * x ∧ f.2 * x ≤ 300000000000 := fun x h1 h2 => mulW_ok (m := x) hf h1 h2
  refine TC_loop (σ := Nat) (fun q => q ≤ n.fields.length) (fun q => [(6, .pointer (some ⟨b6, 0, none⟩)), (7, .pointer (some ⟨b7, 0, none⟩)), (13, .bool true), (20, .int .i64 on), (25, .slice (some ⟨bF, 0, none⟩) n.fields.length n.fields.length), (26, .slice (some ⟨bL, 0, none⟩) n.canals.length n.canals.length), (28, .pointer (some ⟨b28, 0, none⟩)), (174, .slice (some ⟨bM, 0, none⟩) n.fields.length n.fields.length), (175, .int .i64 n.fields.length), (176, .int .i64 q)]) (fun q => (b28, Blk.cells [.int .i64 (f.1 * sumI (ms.take q)), .int .i64 (f.2 * sumI (ms.take q))] 25) :: (bL, Blk.cells cL 25) :: (bF, Blk.cells cF 25) :: (xb ++ (mb ++ (ub ++ (ob ++ (fb ++ [(b8, Blk.cells (encRo r) 43), (b7, Blk.cells (encSp f) 25), (b6, Blk.cells [.slice co (n.canals.map dryC).length cc, .slice fo n.fields.length fc, .int .i64 n.dry, .int .i64 r.days] 57)])))))) (fun q => n.fields.length - q) 0 (Nat.zero_le _) sb (fun w h => by rw [show sumI (ms.take 0) = 0 from rfl, Int.mul_zero, Int.mul_zero]; exact h) (fun j hj => ?_)
  · repeat' (first | refine rn ?_ | (refine zb ?_; intro _ _) | (refine za ?_; intro _ _) | (refine zs ?_; intro _ _))
    refine TC_cond_dec rfl (fun g12 => ?_) (fun g12 => ?_)
    · have hlt : j < n.fields.length := by omega
      obtain ⟨m, hm⟩ : ∃ m, m = minU us (j : Int) := ⟨_, rfl⟩
      have hmj : ms[j]? = some m := by rw [hm]; exact hI.m j hlt
      have hFj : F[j]? = some (f.1 * m, f.2 * m) := by rw [hm]; exact hFg j hlt
      have hFne : F ≠ [] := fun e => by rw [e] at hFl; simp at hFl; omega
      have hmm := hms m (List.mem_of_getElem? hmj)
      have hmm2 : 0 ≤ m ∧ m ≤ r.days * 1440 := hmm
      obtain ⟨M, hM⟩ : ∃ M, M = sumI (ms.take j) := ⟨_, rfl⟩
      have hs1 := sum_take_le ms (fun x hx => (hms x hx).1) j
      have hs2 := sum_take_le ms (fun x hx => (hms x hx).1) (j + 1)
      have hse := sum_take ms j m hmj
      rw [← hM] at hs1 hse ⊢
      obtain ⟨⟨p1, p2⟩, p3, p4⟩ := hmb m (by omega) (by omega)
      obtain ⟨⟨p5, p6⟩, p7, p8⟩ := hmb M (by omega) (by omega)
      have e1 : f.1 * M + f.1 * m = f.1 * sumI (ms.take (j + 1)) := by rw [hse, Int.mul_add]
      have e2 : f.2 * M + f.2 * m = f.2 * sumI (ms.take (j + 1)) := by rw [hse, Int.mul_add]
      repeat' (first | refine rn ?_ | (refine zb ?_; intro _ _) | (refine za ?_; intro _ _) | (refine zs ?_; intro _ _))
      refine TL_index j rfl rfl rfl (fun w h => hrowm.sl h (fun p hp => by repeat (first | exact List.mem_append_left _ hp | apply List.mem_append_right | apply List.mem_cons_of_mem))) rfl (by omega) (by omega) ?_
      refine TL_load_el1 (u := m) rfl rfl (fun w h => hrowm.sl h (fun p hp => by repeat (first | exact List.mem_append_left _ hp | apply List.mem_append_right | apply List.mem_cons_of_mem))) hmj rfl ?_
      repeat' (first | refine rn ?_ | (refine zb ?_; intro _ _) | (refine za ?_; intro _ _) | (refine zs ?_; intro _ _))
      apply TC_draw 14; kernel_rfl; exact Tryz.mixed
      · iterate 2 (refine' pv ?_; rotate_left)
        (refine' PG.val rfl rfl (by intro _X; refine TL_index j rfl rfl rfl (fun w h => hF.sl h (fun p hp => by rw [List.mem_singleton.1 hp]; exact mm)) rfl (by omega) (by omega) ?_; exact qe) ?_; rotate_left)
        (refine' PG.val rfl rfl (by intro _X; refine TL_load_eln (u := (f.1 * m, f.2 * m)) rfl rfl (fun w h => hF.sl h (fun p hp => by rw [List.mem_singleton.1 hp]; exact mm)) hFj rfl ?_; exact qe) ?_; rotate_left)
        iterate 8 (refine' pv ?_; rotate_left)
        (refine' PG.val rfl rfl (by intro _X; refine TL_callV rfl rfl rfl (fun w h => c30 (f.1 * m) (f.2 * m) w) ?_; exact qe) ?_; rotate_left)
        (refine' pv ?_; rotate_left)
        exact PG.nil
      change TL _ _ _ _ _ _ _ _ _ _ _
      repeat' (first | refine rn ?_ | (refine zb ?_; intro _ _) | (refine za ?_; intro _ _) | (refine zs ?_; intro _ _))
      refine TC_cond_dec rfl (fun g13 => absurd rfl g13) (fun g13 => ?_)
      repeat' (first | refine rn ?_ | (refine zb ?_; intro _ _) | (refine za ?_; intro _ _) | (refine zs ?_; intro _ _))
      apply TC_draw 17; kernel_rfl; exact Tryz.mixed
      · iterate 4 (refine' pv ?_; rotate_left)
        (refine' PG.val rfl rfl (by intro _X; refine TL_index j rfl rfl rfl (fun w h => hF.sl h (fun p hp => by rw [List.mem_singleton.1 hp]; exact mm)) rfl (by omega) (by omega) ?_; exact qe) ?_; rotate_left)
        (refine' PG.val rfl rfl (by intro _X; refine TL_fieldAddr_el rfl rfl (fun w h => hF.sl h (fun p hp => by rw [List.mem_singleton.1 hp]; exact mm)) hFne ?_; exact qe) ?_; rotate_left)
        (refine' PG.val rfl rfl (by intro _X; refine TL_load_el1 (u := (f.1 * m, f.2 * m)) rfl rfl (fun w h => hF.sl h (fun p hp => by rw [List.mem_singleton.1 hp]; exact mm)) hFj rfl ?_; exact qe) ?_; rotate_left)
        iterate 5 (refine' pv ?_; rotate_left)
        (refine' PG.val rfl rfl (by intro _X; refine TL_index j rfl rfl rfl (fun w h => hF.sl h (fun p hp => by rw [List.mem_singleton.1 hp]; exact mm)) rfl (by omega) (by omega) ?_; exact qe) ?_; rotate_left)
        (refine' PG.val rfl rfl (by intro _X; refine TL_fieldAddr_el rfl rfl (fun w h => hF.sl h (fun p hp => by rw [List.mem_singleton.1 hp]; exact mm)) hFne ?_; exact qe) ?_; rotate_left)
        (refine' PG.val rfl rfl (by intro _X; refine TL_load_el1 (u := (f.1 * m, f.2 * m)) rfl rfl (fun w h => hF.sl h (fun p hp => by rw [List.mem_singleton.1 hp]; exact mm)) hFj rfl ?_; exact qe) ?_; rotate_left)
        (refine' pv ?_; rotate_left)
        (refine' PG.val rfl rfl (by intro _X; refine TL_callV rfl rfl rfl (fun w h => c30 (f.1 * M + f.1 * m) (f.2 * M + f.2 * m) w) ?_; exact qe) ?_; rotate_left)
        exact PG.nil
      change TL _ _ _ _ _ _ _ _ _ _ _
      rw [e1, e2]
      repeat' (first | refine rn ?_ | (refine zb ?_; intro _ _) | (refine za ?_; intro _ _) | (refine zs ?_; intro _ _))
      exact TQ_round (j + 1) hlt (by omega) sb (fun w h => h)
    obtain rfl : j = n.fields.length := by omega
    have hall : sumI (ms.take n.fields.length) = sumI ms := by rw [← hmsl, List.take_length]
    rw [hall]
    obtain ⟨⟨p1, p2⟩, p3, p4⟩ := hmb (sumI ms) hsm hsb
    have eleft : r.days * 1440 - on = sumI ms := by have := hI.tot; omega
    repeat' (first | refine rn ?_ | (refine zb ?_; intro _ _) | (refine za ?_; intro _ _) | (refine zs ?_; intro _ _))
    refine TC_loop (σ := Nat) (fun q => q ≤ n.canals.length) (fun q => [(6, .pointer (some ⟨b6, 0, none⟩)), (7, .pointer (some ⟨b7, 0, none⟩)), (13, .bool true), (20, .int .i64 on), (28, .pointer (some ⟨b28, 0, none⟩)), (213, .slice (some ⟨bL, 0, none⟩) n.canals.length n.canals.length), (214, .int .i64 n.canals.length), (215, .int .i64 q)]) (fun q => (b28, Blk.cells [.int .i64 (f.1 * sumI ms), .int .i64 (f.2 * sumI ms)] 25) :: (bL, Blk.cells cL 25) :: (bF, Blk.cells cF 25) :: (xb ++ (mb ++ (ub ++ (ob ++ (fb ++ [(b8, Blk.cells (encRo r) 43), (b7, Blk.cells (encSp f) 25), (b6, Blk.cells [.slice co (n.canals.map dryC).length cc, .slice fo n.fields.length fc, .int .i64 n.dry, .int .i64 r.days] 57)])))))) (fun q => n.canals.length - q) 0 (Nat.zero_le _) sb (fun w h => h) (fun j hj => ?_)
    repeat' (first | refine rn ?_ | (refine zb ?_; intro _ _) | (refine za ?_; intro _ _) | (refine zs ?_; intro _ _))
    refine TC_cond_dec rfl (fun g14 => ?_) (fun g14 => ?_)
    · have hlt : j < n.canals.length := by omega
      have hLj : L[j]? = some ((0 : Int), (0 : Int)) := by rw [hLd, List.getElem?_replicate, if_pos (by rw [f2]; exact hlt)]
      repeat' (first | refine rn ?_ | (refine zb ?_; intro _ _) | (refine za ?_; intro _ _) | (refine zs ?_; intro _ _))
      refine TL_index j rfl rfl rfl (fun w h => hL.sl h (fun p hp => by rw [List.mem_singleton.1 hp]; exact mm)) rfl (by omega) (by omega) ?_
      refine TL_load_eln (u := ((0 : Int), (0 : Int))) rfl rfl (fun w h => hL.sl h (fun p hp => by rw [List.mem_singleton.1 hp]; exact mm)) hLj rfl ?_
      repeat' (first | refine rn ?_ | (refine zb ?_; intro _ _) | (refine za ?_; intro _ _) | (refine zs ?_; intro _ _))
      exact TQ_round (j + 1) hlt (by omega) sb (fun w h => h.sub (List.Sublist.cons _ (List.Sublist.refl _)))
    repeat' (first | refine rn ?_ | (refine zb ?_; intro _ _) | (refine za ?_; intro _ _) | (refine zs ?_; intro _ _))
    rw [eleft]
    apply TC_draw 14; kernel_rfl; exact Tryz.mixed
    · iterate 2 (refine' pv ?_; rotate_left)
      iterate 9 (refine' pg ?_; rotate_left)
      (refine' PG.val rfl rfl (by intro _X; (refine TL_guard_yes rfl rfl rfl ?_); refine TL_callV rfl rfl rfl (fun w h => c30 (f.1 * sumI ms) (f.2 * sumI ms) w) ?_; exact qe) ?_; rotate_left)
      (refine' pg ?_; rotate_left)
      (refine' pv ?_; rotate_left)
      exact PG.nil
    change TL _ _ _ _ _ _ _ _ _ _ _
    repeat' (first | refine rn ?_ | (refine zb ?_; intro _ _) | (refine za ?_; intro _ _) | (refine zs ?_; intro _ _))
    exact TQ_ret1 Tryz.results6 (RV.tmp rfl) (fun w' hs => ⟨by simp, hs.below⟩)
end Go.Proofs.YtkpkebpofpcmaaaGreatDoor
