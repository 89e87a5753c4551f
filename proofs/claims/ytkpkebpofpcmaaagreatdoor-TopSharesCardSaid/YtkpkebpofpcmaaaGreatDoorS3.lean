/- The engine: clear, and lookups in a map that lies below. Walks: the sort of deeds as read calls it; heirs who are not dead. -/
import Derived.Test.YtkpkebpofpcmaaaGreatDoorEngR
import Derived.Test.YtkpkebpofpcmaaaGreatDoorD15
import Derived.Test.YtkpkebpofpcmaaaGreatDoorS5
namespace Go.Eng
open Go Go.RowKit
set_option linter.unusedVariables false
theorem mem_repN {z : List Value} : ∀ {n : Nat} {v : Value}, v ∈ repN n z → v ∈ z
  | 0, v, h => by simp [repN] at h
  | n + 1, v, h => by
    rcases List.mem_append.1 h with h | h
    · exact h
    · exact mem_repN h
section
variable {r : Option Nat} {P : Program} {Q : Exit → Act → World → Prop} {N : Nat} {D : List Deferred} {B : Nat} {w0 : World} {L : Env} {H : Hp} {ops : Array Oper} {rest : List Oper}
variable {ty : TypeId} {pos : String} {aft : Array Edge}
theorem TL_clear {t e T : TypeId} {x : Operand} {sz : Nat} {ag : Bool} {z : List Value} [hu : SlcP P t e] [he : TyP P e sz ag z] {b o n c : Nat} {cs cs' : List Value} {H' : Hp} (hx : ev L x = some (.slice (some ⟨b, o, none⟩) n c)) (hn : 0 < n) (hz : oneCells z = true) (hl : z.length = sz)
    (hup : Upd H b (.cells cs T) (.cells cs' T) H') (hp : putN o (repN n z) cs = some cs') (k : TL r P Q N D B w0 L H' ops rest) : TL r P Q N D B w0 L H ops (⟨none, .call { callee := .builtin .clear, args := #[x], argTypes := #[t] }, ty, pos, aft, none⟩ :: rest) := by
  refine TL_run rfl (by simp) fun a w hf hs => ?_
  have hb := (hs.holds b _ hup.mem).2
  simp only [Blk.toObj] at hb
  obtain ⟨h1, h2⟩ := putN_some hp
  have hst := run_storeCells_at P b o T (repN n z) 0 cs.toArray w hb (by simpa using h2) (fun v hv => oneCells_mem hz v (mem_repN hv))
  obtain ⟨i, v, hi, hsi, hzv, hc⟩ := he.info
  have hzc : (Builtin.zeroCells v.cells n).toList = repN n z := by
    rw [hc]
    have := repN_range n z
    simp only [Builtin.zeroCells]
    rw [show n * z.toArray.size = n * z.length by simp, this]
  obtain ⟨m, rfl⟩ : ∃ m, n = m + 1 := ⟨n - 1, by omega⟩
  have hrun : (Builtin.clear_ #[t] ty #[.slice (some ⟨b, o, none⟩) (m + 1) c]).run P w = .ok (.tuple #[]) (w.setRow b (List.take (o + 0) cs.toArray.toList ++ repN (m + 1) z ++ List.drop (o + 0 + (repN (m + 1) z).length) cs.toArray.toList).toArray) := by
    simp [Builtin.clear_, run_underlying hu.u, zeroValue, typeInfo, hi, hzv, hzc, Result.andThen, hst]
  have e : (execOp a.eval ⟨none, .call { callee := .builtin .clear, args := #[x], argTypes := #[t] }, ty, pos, aft, none⟩).run P w = .ok (.value (.tuple #[])) (w.setRow b (List.take (o + 0) cs.toArray.toList ++ repN (m + 1) z ++ List.drop (o + 0 + (repN (m + 1) z).length) cs.toArray.toList).toArray) := by
    simp [execOp, hf.ev hx, resolve, invoke, Go.builtin, hrun]
  rw [e]
  refine k _ _ hf (hs.upd hup rfl rfl rfl (by simp) ?_ ?_)
  · rw [setRow_heap w b cs.toArray _ T _ hb, h1]; simp [Blk.toObj]
  · intro c hc; exact setRow_other w b c _ hc
theorem TL_lookupW {d : Nat} {t kt e : TypeId} {kd : IntKind} {x y : Operand} [hm : MapP P t kt e] [hk : IntP P kt kd] {b : Nat} {es : Array MapEntry} {clk : Nat} {f : Int → Option Value} {key : Int} {z v : Value} (hd : Nat.blt d N = true)
    (hx : ev L x = some (.map (some b))) (hy : ev L y = some (.int kd key)) (hb : ∀ w, SH B w0 w H → w.heap[b]? = some (.map es clk)) (hr : MR kd es.toList f) (hze : ∀ w, (zeroValue e).run P w = .ok z w) (hv : (f key).getD z = v)
    (k : TL r P Q N D B w0 ((d, v) :: L) H ops rest) : TL r P Q N D B w0 L H ops (⟨some d, .lookup t x y false, ty, pos, aft, none⟩ :: rest) :=
  TL_val (by simp) hd _ (fun a w hf hs => by
    have h := run_lookup (P := P) (t := t) hr (key := key) (hb w hs) (hze w)
    rw [hv] at h
    simp [execOp, hf.ev hx, hf.ev hy, h]) k
end
end Go.Eng
namespace Go.Proofs.YtkpkebpofpcmaaaGreatDoor
open Go Go.Eng Go.RowKit Go.Proofs
set_option maxHeartbeats 4000000
set_option maxRecDepth 10000
attribute [local irreducible] TL TC TQ

theorem c125 {B : Nat} {w0 : World} {G : Hp} (l : List Dd) (so : Option Addr) (sc : Nat) (ob : Hp) (bs : Nat) (hn : l.length ≤ 1000) (hrow : Row 50 9 encDd so sc ob l) (hm : (bs, Blk.cells byV 216) ∈ G) (w : World) (hs : SH B w0 w (ob ++ G)) :
    Calls Tryz.prog 125 #[.slice so l.length sc, .slice (some ⟨bs, 0, none⟩) 2 2] w (RetP B w0 (fun _ : Hp => .slice so l.length sc) (fun o => o ++ G) (fun o => Row 50 9 encDd so sc o (stableM (ltC cmpD) l))) := by
  refine enter (args := [.slice so l.length sc, .slice (some ⟨bs, 0, none⟩) 2 2]) Tryz.func125 rfl Tryz.ntmps125 rfl hs ?_
  repeat' (first | refine rn ?_ | (refine zb ?_; intro _ _) | (refine za ?_; intro _ _) | (refine zs ?_; intro _ _))
  rename_i b3 _
  refine TL_call rfl rfl rfl _ _ _ (fun w h => c153 (G := (b3, .cells [.slice (some ⟨bs, 0, none⟩) 2 2] 251) :: G) cmpD 154 [.pointer (some ⟨b3, 0, none⟩)] l l so sc ob (Keeps.refl l) hn hn hrow (fun x hx y hy H w' hG h => c154 x y b3 bs w' ⟨Sl.of_blk (enc := encV) (k := 1) (l := [.slice (some ⟨bs, 0, none⟩) 2 2]) h (hG _ (List.Mem.head _)) (fun _ _ => rfl) ⟨[], rfl⟩, Sl.of_blk (enc := encV) (k := 1) (l := byV) h (hG _ (List.Mem.tail _ hm)) (fun _ _ => rfl) ⟨[], rfl⟩⟩) w (h.perm List.perm_middle)) ?_
  intro o hr
  repeat' (first | refine rn ?_ | (refine zb ?_; intro _ _) | (refine za ?_; intro _ _) | (refine zs ?_; intro _ _))
  exact TQ_ret1 Tryz.results125 (RV.tmp rfl) (fun w' hs => ⟨o, hr, rfl, hs.sub (List.Sublist.append_left (List.sublist_cons_self _ _) _)⟩)
theorem c191 (h : Sp) (w : World) : Calls Tryz.prog 191 #[.agg (encSp h).toArray] w (RetV w (.int .i64 h.2)) := by
  refine enter (args := [.agg (encSp h).toArray]) Tryz.func191 rfl Tryz.ntmps191 rfl (SH.refl _) ?_
  repeat' (first | refine rn ?_ | (refine zb ?_; intro _ _) | (refine za ?_; intro _ _) | (refine zs ?_; intro _ _))
  exact TQ_ret1 Tryz.results191 (RV.tmp rfl) (fun w' hs => ⟨rfl, hs.below⟩)
theorem c189 (x : Sp) (bb b bm : Nat) (bk : List Value) (hbk : bk.length = 4) (hbm : bk[3]? = some (.map (some bm))) (dead : Int → Bool) (es : Array MapEntry) (clk : Nat) (hr : MR .i64 es.toList (deadF dead)) (w : World) (h1 : Sl w 1 encV (some ⟨bb, 0, none⟩) [.pointer (some ⟨b, 0, none⟩)]) (h2 : Sl w 4 (fun c : List Value => c) (some ⟨b, 0, none⟩) [bk]) (h3 : w.heap[bm]? = some (.map es clk)) :
    Calls Tryz.prog 189 #[.agg (encSp x).toArray, .pointer (some ⟨bb, 0, none⟩)] w (RetV w (.bool (dead x.1))) := by
  obtain ⟨a0, a1, a2, a3, rfl⟩ : ∃ a0 a1 a2 a3, bk = [a0, a1, a2, a3] := by
    match bk, hbk with
    | [a0, a1, a2, a3], _ => exact ⟨a0, a1, a2, a3, rfl⟩
  simp at hbm
  subst hbm
  refine enter (args := [.agg (encSp x).toArray, .pointer (some ⟨bb, 0, none⟩)]) Tryz.func189 rfl Tryz.ntmps189 rfl (SH.refl _) ?_
  repeat' (first | refine rn ?_ | (refine zb ?_; intro _ _) | (refine za ?_; intro _ _) | (refine zs ?_; intro _ _))
  apply TC_draw 7; kernel_rfl; exact Tryz.mixed
  · (refine' PG.val rfl rfl (by intro _X; refine TL_load_el1 (i := 0) (o := 0) rfl rfl (fun w h => h.sl h1) rfl rfl ?_; exact qe) ?_; rotate_left)
    (refine' PG.val rfl rfl (by intro _X; refine TL_nilCheck rfl rfl ?_; exact qe) ?_; rotate_left)
    (refine' pv ?_; rotate_left)
    (refine' PG.val rfl rfl (by intro _X; refine TL_load_el1 (i := 0) (o := 3) rfl rfl (fun w h => h.sl h2) rfl rfl ?_; exact qe) ?_; rotate_left)
    iterate 2 (refine' pv ?_; rotate_left)
    (refine' PG.val rfl rfl (by intro _X; refine TL_lookupW rfl rfl rfl (fun w h => (h.below.block bm (Array.getElem?_eq_some_iff.1 h3).1).trans h3) hr zero4 (dead_get dead x.1 _ rfl) ?_; exact qe) ?_; rotate_left)
    exact PG.nil
  change TL _ _ _ _ _ _ _ _ _ _ _
  repeat' (first | refine rn ?_ | (refine zb ?_; intro _ _) | (refine za ?_; intro _ _) | (refine zs ?_; intro _ _))
  exact TQ_ret1 Tryz.results189 (RV.tmp rfl) (fun w' hs => ⟨rfl, hs.below⟩)
theorem take_filter_snoc {α : Type} (p : α → Bool) {l : List α} {j : Nat} {x : α} (h : l[j]? = some x) : (l.take (j + 1)).filter p = (l.take j).filter p ++ (if p x then [x] else []) := by
  rw [take_snoc h, List.filter_append]
  cases hp : p x <;> simp [hp]
theorem c188 {B : Nat} {w0 : World} {G : Hp} (q : Sp → Bool) (kf : FuncId) (cl : List Value) [EntP Tryz.prog kf] (l : List Sp) (ao : Option Addr) (cap : Nat) (ob : Hp) (hn : l.length ≤ 100) (hne : l ≠ []) (hrow : Row 214 2 encSp ao cap ob l)
    (hcl : ∀ x ∈ l, ∀ (H : Hp) (w' : World), (∀ p ∈ G, p ∈ H) → SH B w0 w' H → Calls Tryz.prog kf (Value.agg (encSp x).toArray :: cl).toArray w' (RetV w' (.bool (q x)))) (w : World) (hs : SH B w0 w (ob ++ G)) :
    Calls Tryz.prog 188 #[.slice ao l.length cap, .func (.func kf) #[] cl.toArray] w (RetP B w0 (fun _ : Nat × List Value => .slice ao (l.filter fun x => !q x).length cap) (fun y => (y.1, .cells y.2 214) :: G) (fun y => ao = some ⟨y.1, 0, none⟩ ∧ ∃ more, y.2 = (l.filter fun x => !q x).flatMap encSp ++ more)) := by
  have hcap := hrow.le
  have hpos : 0 < l.length := List.length_pos_iff.2 hne
  refine enter (args := [.slice ao l.length cap, .func (.func kf) #[] cl.toArray]) Tryz.func188 rfl Tryz.ntmps188 rfl hs ?_
  repeat' (first | refine rn ?_ | (refine zb ?_; intro _ _) | (refine za ?_; intro _ _) | (refine zs ?_; intro _ _))
  refine TL_callV rfl rfl rfl (fun w h => c211 q kf cl l ao cap (by unfold Small; omega) w (hrow.sl h (fun p hp => List.mem_append_left _ hp)) (fun x hx w' hb => hcl x hx _ w' (fun p hp => List.mem_append_right _ hp) (h.ext hb))) ?_
  rcases fidx_spec q l with ⟨h1, h2⟩ | ⟨i0, x0, h1, h2, h3, h4⟩
  · have ef : (l.filter fun x => !q x) = l := List.filter_eq_self.2 (fun x hx => by rw [h2 x hx]; rfl)
    rw [h1, ef]
    repeat' (first | refine rn ?_ | (refine zb ?_; intro _ _) | (refine za ?_; intro _ _) | (refine zs ?_; intro _ _))
    rcases hrow.2 with ⟨_, _, _, he⟩ | ⟨bb, more, rfl, rfl, _, _, _⟩
    · exact absurd he hne
    · exact TQ_ret1 Tryz.results188 (RV.tmp rfl) (fun w' hs => ⟨(bb, _), ⟨rfl, more, rfl⟩, rfl, hs⟩)
  have hi0 : i0 < l.length := (List.getElem?_eq_some_iff.1 h2).1
  rw [h1]
  repeat' (first | refine rn ?_ | (refine zb ?_; intro _ _) | (refine za ?_; intro _ _) | (refine zs ?_; intro _ _))
  refine TC_loop (σ := Nat × Nat × List Sp × Hp) (fun y => y.1 < y.2.1 ∧ y.2.1 ≤ l.length ∧ y.2.2.1.length = l.length ∧ y.2.2.1.take y.1 = (l.take y.2.1).filter (fun x => !q x) ∧ (∀ t, y.2.1 ≤ t → y.2.2.1[t]? = l[t]?) ∧ Row 214 2 encSp ao cap y.2.2.2 y.2.2.1) (fun y => [(0, .slice ao l.length cap), (1, .func (.func kf) #[] cl.toArray), (5, .int .i64 y.1), (6, .int .i64 y.2.1)]) (fun y => y.2.2.2 ++ G) (fun y => l.length - y.2.1) (i0, i0 + 1, l, ob) ⟨Nat.lt_succ_self _, hi0, rfl, ?_, fun _ _ => rfl, hrow⟩ sb (fun w h => h) (fun y hy => ?_)
  · dsimp only
    rw [take_filter_snoc _ h2, h3, List.filter_eq_self.2 (fun x hx => by
      obtain ⟨j, hj, rfl⟩ := List.getElem_of_mem hx
      have hj2 : j < i0 ∧ j < l.length := by simp at hj; omega
      rw [h4 j _ hj2.1 (by rw [List.getElem?_eq_getElem hj2.2, List.getElem_take])]; rfl)]
    simp
  obtain ⟨i, j, cur, o⟩ := y
  obtain ⟨hij, hj, hcl2, htk, hdr, hr⟩ := hy
  dsimp only at hij hj hcl2 htk hdr hr ⊢
  repeat' (first | refine rn ?_ | (refine zb ?_; intro _ _) | (refine za ?_; intro _ _) | (refine zs ?_; intro _ _))
  refine TC_cond_dec rfl (fun g1 => ?_) (fun g1 => ?_)
  · have hjl : j < l.length := by omega
    obtain ⟨x, hx⟩ : ∃ x, l[j]? = some x := ⟨_, List.getElem?_eq_getElem hjl⟩
    have hxc : cur[j]? = some x := by rw [hdr j (Nat.le_refl _)]; exact hx
    obtain ⟨u, hu⟩ : ∃ u, cur[i]? = some u := ⟨_, List.getElem?_eq_getElem (by omega)⟩
    have htf := take_filter_snoc (fun x => !q x) hx
    repeat' (first | refine rn ?_ | (refine zb ?_; intro _ _) | (refine za ?_; intro _ _) | (refine zs ?_; intro _ _))
    refine TL_index j rfl rfl rfl (fun w h => hr.sl h (fun p hp => List.mem_append_left _ hp)) rfl (by omega) (by omega) ?_
    refine TL_load_eln (u := x) rfl rfl (fun w h => hr.sl h (fun p hp => List.mem_append_left _ hp)) hxc rfl ?_
    repeat' (first | refine rn ?_ | (refine zb ?_; intro _ _) | (refine za ?_; intro _ _) | (refine zs ?_; intro _ _))
    rename_i b7 _
    refine TL_callV rfl rfl rfl (fun w h => hcl x (List.mem_of_getElem? hx) _ w (fun p hp => List.mem_cons_of_mem _ (List.mem_append_right _ hp)) h) ?_
    repeat' (first | refine rn ?_ | (refine zb ?_; intro _ _) | (refine za ?_; intro _ _) | (refine zs ?_; intro _ _))
    cases hq : q x with
    | false =>
      rw [hq] at htf
      repeat' (first | refine rn ?_ | (refine zb ?_; intro _ _) | (refine za ?_; intro _ _) | (refine zs ?_; intro _ _))
      refine TL_index i rfl rfl rfl (fun w h => hr.sl h (fun p hp => List.mem_cons_of_mem _ (List.mem_append_left _ hp))) rfl (by omega) (by omega) ?_
      refine TL_store_el (enc := encSp) (i := i) (off := 0) (u := u) (u' := x) (fun o => (b7, .cells (encSp x) 214) :: (o ++ G)) hr rfl rfl rfl rfl rfl rfl hu rfl rfl (fun _ _ _ => up) (fun o' hr2 => ?_)
      repeat' (first | refine rn ?_ | (refine zb ?_; intro _ _) | (refine za ?_; intro _ _) | (refine zs ?_; intro _ _))
      refine TQ_round (i + 1, j + 1, cur.set i x, o') ⟨by dsimp only; omega, by dsimp only; omega, by dsimp only; rw [List.length_set]; exact hcl2, ?_, fun t ht => ?_, hr2⟩ (by dsimp only; omega) sb (fun w h => h.sub (List.sublist_cons_self _ _))
      · dsimp only
        rw [htf, ← htk, take_snoc (x := x) (by rw [List.getElem?_set_self (by omega)]), List.take_set_of_le (by omega)]
        rfl
      · dsimp only at ht ⊢
        rw [List.getElem?_set_ne (by omega)]; exact hdr t (by omega)
    | true =>
      rw [hq] at htf
      repeat' (first | refine rn ?_ | (refine zb ?_; intro _ _) | (refine za ?_; intro _ _) | (refine zs ?_; intro _ _))
      refine TQ_round (i, j + 1, cur, o) ⟨by dsimp only; omega, by dsimp only; omega, hcl2, ?_, fun t ht => hdr t (by dsimp only at ht; omega), hr⟩ (by dsimp only; omega) sb (fun w h => h.sub (List.sublist_cons_self _ _))
      dsimp only
      rw [htf, ← htk]; simp
  · have ejl : j = l.length := by omega
    subst ejl
    rw [List.take_length] at htk
    obtain ⟨bb, more, rfl, rfl, _, _, hcells⟩ : ∃ b more, ao = some ⟨b, 0, none⟩ ∧ o = [(b, Blk.cells (cur.flatMap encSp ++ more) 214)] ∧ cur.length ≤ cap ∧ cap ≤ maxLen ∧ (cur.flatMap encSp ++ more).length = cap * 2 := by
      rcases hr.2 with ⟨_, _, _, he⟩ | h
      · rw [he] at hcl2; simp at hcl2; omega
      · exact h
    have hfl : (l.filter fun x => !q x).length = i := by rw [← htk, List.length_take]; omega
    have hput : ∃ cs', putN (i * 2) (repN (l.length - i) [.int .i64 0, .int .i64 0]) (cur.flatMap encSp ++ more) = some cs' := ⟨_, putN_put (by rw [repN_length, hcells]; simp; omega)⟩
    obtain ⟨cs', hput⟩ := hput
    have hcs := (putN_some hput).1
    have hft := (flat_take (enc := encSp) (k := 2) cur i (fun _ _ => rfl)).1
    have hlen2 : (cur.flatMap encSp).length = cur.length * 2 := flat_len cur (fun _ _ => rfl)
    rw [List.take_append_of_le_length (by omega), ← hft, htk, List.append_assoc] at hcs
    rw [hfl]
    repeat' (first | refine rn ?_ | (refine zb ?_; intro _ _) | (refine za ?_; intro _ _) | (refine zs ?_; intro _ _))
    refine TL_sliceFrom i rfl rfl rfl rfl (by omega) ?_
    rw [if_neg (by omega), mapAdd0]
    refine TL_clear (T := 214) (z := [.int .i64 0, .int .i64 0]) (b := bb) (o := i * 2) rfl (by omega) rfl rfl (by exact Upd.head) hput ?_
    repeat' (first | refine rn ?_ | (refine zb ?_; intro _ _) | (refine za ?_; intro _ _) | (refine zs ?_; intro _ _))
    refine TL_sliceTo i rfl rfl rfl rfl (by omega) ?_
    rw [if_neg (by omega), mapAdd0]
    repeat' (first | refine rn ?_ | (refine zb ?_; intro _ _) | (refine za ?_; intro _ _) | (refine zs ?_; intro _ _))
    exact TQ_ret1 Tryz.results188 (RV.tmp rfl) (fun w' hs => ⟨(bb, cs'), ⟨rfl, _, hcs⟩, rfl, hs⟩)
end Go.Proofs.YtkpkebpofpcmaaaGreatDoor
