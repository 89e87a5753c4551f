/- Walks of the package channel: numbers from one to another; whether a net is valid. -/
import Derived.Test.YtkpkebpofpcmaaaGreatDoorR1
import Derived.Test.YtkpkebpofpcmaaaGreatDoorEngK
import Derived.Test.YtkpkebpofpcmaaaGreatDoorEngH
namespace Go.Eng
open Go Go.RowKit
theorem mget_some {kd : IntKind} {k : Int} : ∀ {es : List MapEntry}, (∃ e ∈ es, e.key = .int kd k) → (mget kd es k).isSome = true
  | [], h => by obtain ⟨_, h, _⟩ := h; cases h
  | e :: es, h => by
    by_cases he : e.key = .int kd k
    · simp only [mget, he]; simp
    · have h2 : (mget kd es k).isSome = true := mget_some (by
        obtain ⟨x, hx, hk⟩ := h
        rcases List.mem_cons.1 hx with rfl | hx
        · exact absurd hk he
        · exact ⟨x, hx, hk⟩)
      unfold mget
      split
      · split
        · rfl
        · exact h2
      · exact h2
/-- How many entries a map has whose keys are known. -/
theorem MU.len {kd : IntKind} {es : List MapEntry} {f : Int → Option Value} (h : MU kd es f) {S : List Int} (hS : S.Nodup) (hf : ∀ k, (f k).isSome = true ↔ k ∈ S) : es.length = S.length := by
  obtain ⟨ks, hks⟩ : ∃ ks : List Int, es.map (·.key) = ks.map (Value.int kd) := by
    have := h.mr.keys
    clear h hf
    induction es with
    | nil => exact ⟨[], rfl⟩
    | cons e es ih =>
      obtain ⟨m, hm⟩ := this e List.mem_cons_self
      obtain ⟨ks, hk⟩ := ih (fun x hx => this x (List.mem_cons_of_mem _ hx))
      exact ⟨m :: ks, by simp [hm, hk]⟩
  have hn : ks.Nodup := by
    have := h.nd
    rw [hks] at this
    exact (List.pairwise_map.1 this).imp (fun h e => h (by rw [e]))
  have hm : ∀ k, k ∈ ks ↔ k ∈ S := fun k => by
    rw [← hf, ← h.mr.get]
    constructor
    · intro hk
      have : Value.int kd k ∈ es.map (·.key) := by rw [hks]; exact List.mem_map.2 ⟨k, hk, rfl⟩
      obtain ⟨e, he, hek⟩ := List.mem_map.1 this
      exact mget_some ⟨e, he, hek⟩
    · intro hk
      refine Classical.byContradiction fun hc => ?_
      have : mget kd es k = none := mget_none h.mr.keys (fun e he hek => hc (by
        have h1 : e.key ∈ es.map (·.key) := List.mem_map.2 ⟨e, he, rfl⟩
        rw [hks] at h1
        obtain ⟨k', hk', e'⟩ := List.mem_map.1 h1
        rw [hek] at e'
        cases e'; exact hk'))
      rw [this] at hk; cases hk
  have hp : ks.Perm S := (List.perm_ext_iff_of_nodup hn hS).2 hm
  rw [← hp.length_eq]
  have := congrArg List.length hks
  simpa using this
section
variable {r : Option Nat} {P : Program} {Q : Exit → Act → World → Prop} {N : Nat} {D : List Deferred} {B : Nat} {w0 : World} {L : Env} {H : Hp} {ops : Array Oper} {rest : List Oper}
variable {d : Nat} {ty : TypeId} {pos : String} {aft : Array Edge}
theorem TL_lenMap {t kt e : TypeId} {x : Operand} {b : Nat} {es : Array MapEntry} {clk : Nat} (hd : Nat.blt d N = true) [hm : MapP P t kt e] (hx : ev L x = some (.map (some b))) (hb : (b, .obj (.map es clk)) ∈ H)
    (k : TL r P Q N D B w0 ((d, .int .i64 es.size) :: L) H ops rest) :
    TL r P Q N D B w0 L H ops (⟨some d, .call { callee := .builtin .len, args := #[x], argTypes := #[t] }, ty, pos, aft, none⟩ :: rest) :=
  TL_val (by simp) hd _ (fun a w hf hs => by
    have h1 : w.heap[b]? = some (.map es clk) := (hs.holds b _ hb).2
    have hget : (getObj b).run P w = .ok (.map es clk) w := by simp [getObj, Sem.run, h1]
    simp [execOp, hf.ev hx, resolve, invoke, Go.builtin, Builtin.len_, run_underlying hm.u, hget, goInt]) k
end
end Go.Eng
namespace Go.Proofs.YtkpkebpofpcmaaaGreatDoor
open Go Go.Eng Go.RowKit Go.Proofs
set_option maxHeartbeats 4000000
set_option maxRecDepth 10000
attribute [local irreducible] TL TC TQ

theorem c94 (x lo hi : Int) (b1 b2 : Nat) (w : World) (h1 : Sl w 1 encI (some ⟨b1, 0, none⟩) [lo]) (h2 : Sl w 1 encI (some ⟨b2, 0, none⟩) [hi]) :
    Calls Tryz.prog 94 #[.int .i64 x, .pointer (some ⟨b1, 0, none⟩), .pointer (some ⟨b2, 0, none⟩)] w (RetV w (.bool (decide (¬ In x lo hi)))) := by
  refine enter (args := [.int .i64 x, .pointer (some ⟨b1, 0, none⟩), .pointer (some ⟨b2, 0, none⟩)]) Tryz.func94 rfl Tryz.ntmps94 rfl (SH.refl _) ?_
  repeat' (first | refine rn ?_ | (refine zb ?_; intro _ _) | (refine za ?_; intro _ _) | (refine zs ?_; intro _ _))
  refine TL_load_el1 (i := 0) (o := 0) rfl rfl (fun w h => h.sl h1) rfl rfl ?_
  repeat' (first | refine rn ?_ | (refine zb ?_; intro _ _) | (refine za ?_; intro _ _) | (refine zs ?_; intro _ _))
  refine TL_gsplit_dec rfl rfl (fun g1 => ?_) (fun g1 => ?_)
  · repeat' (first | refine rn ?_ | (refine zb ?_; intro _ _) | (refine za ?_; intro _ _) | (refine zs ?_; intro _ _))
    exact TQ_ret1 Tryz.results94 (RV.tmp rfl) (fun w' hs => RetV.yes (fun h => by unfold In at h; omega) hs.below)
  · refine TL_guard_yes rfl rfl rfl ?_
    refine r1 ?_
    refine TL_guard_yes rfl rfl rfl ?_
    refine TL_load_el1 (i := 0) (o := 0) rfl rfl (fun w h => h.sl h2) rfl rfl ?_
    repeat' (first | refine rn ?_ | (refine zb ?_; intro _ _) | (refine za ?_; intro _ _) | (refine zs ?_; intro _ _))
    refine TQ_ret1 Tryz.results94 (RV.tmp rfl) (fun w' hs => ⟨?_, hs.below⟩)
    rw [decide_eq_decide.2]; unfold In; omega
theorem c51 (lo hi : Int) (l : List Int) (ao : Option Addr) (c : Nat) (hn : Small l.length) (w : World) (ha : Sl w 1 encI ao l) :
    Calls Tryz.prog 51 #[.int .i64 lo, .int .i64 hi, .slice ao l.length c] w (RetV w (.bool (decide (∀ x ∈ l, In x lo hi)))) := by
  refine enter (args := [.int .i64 lo, .int .i64 hi, .slice ao l.length c]) Tryz.func51 rfl Tryz.ntmps51 rfl (SH.refl _) ?_
  repeat' (first | refine rn ?_ | (refine zb ?_; intro _ _) | (refine za ?_; intro _ _) | (refine zs ?_; intro _ _))
  rename_i b3 _ b4 _
  refine TL_callV rfl rfl rfl (fun w h => c75 (fun x => decide (¬ In x lo hi)) 94 [.pointer (some ⟨b3, 0, none⟩), .pointer (some ⟨b4, 0, none⟩)] l ao c hn w (h.sl ha) (fun x _ w' hb => c94 x lo hi b3 b4 w' (Sl.of_blk (h.ext hb) mm (fun _ _ => rfl) ⟨[], rfl⟩) (Sl.of_blk (h.ext hb) mm (fun _ _ => rfl) ⟨[], rfl⟩))) ?_
  repeat' (first | refine rn ?_ | (refine zb ?_; intro _ _) | (refine za ?_; intro _ _) | (refine zs ?_; intro _ _))
  refine TQ_ret1 Tryz.results51 (RV.tmp rfl) (fun w' hs => ⟨?_, hs.below⟩)
  have : (!l.any fun x => decide (¬ In x lo hi)) = decide (∀ x ∈ l, In x lo hi) := by
    rw [Bool.eq_iff_iff]; simp
  rw [this]
theorem c131 (s : Sp) (hi : Int) (w : World) : Calls Tryz.prog 131 #[.agg (encSp s).toArray, .int .i64 hi] w (RetV w (.bool (decide (Ord s 0 hi)))) := by
  refine enter (args := [.agg (encSp s).toArray, .int .i64 hi]) Tryz.func131 rfl Tryz.ntmps131 rfl (SH.refl _) ?_
  repeat' (first | refine rn ?_ | (refine zb ?_; intro _ _) | (refine za ?_; intro _ _) | (refine zs ?_; intro _ _))
  refine TL_gsplit_dec rfl rfl (fun g1 => ?_) (fun g1 => ?_)
  · repeat' (first | refine rn ?_ | (refine zb ?_; intro _ _) | (refine za ?_; intro _ _) | (refine zs ?_; intro _ _))
    refine TL_callV rfl rfl rfl (fun w h => c51 0 hi [s.1, s.2] _ 2 (by simp [Small]) w (Sl.of_blk h mm (fun y _ => rfl) ⟨[], rfl⟩)) ?_
    repeat' (first | refine rn ?_ | (refine zb ?_; intro _ _) | (refine za ?_; intro _ _) | (refine zs ?_; intro _ _))
    refine TQ_ret1 Tryz.results131 (RV.tmp rfl) (fun w' hs => ⟨?_, hs.below⟩)
    have : (∀ y ∈ [s.1, s.2], In y 0 hi) ↔ Ord s 0 hi := by
      simp [In, Ord]; omega
    rw [decide_eq_decide.2 this]
  · repeat' (first | refine rn ?_ | (refine zb ?_; intro _ _) | (refine za ?_; intro _ _) | (refine zs ?_; intro _ _))
    exact TQ_ret1 Tryz.results131 (RV.tmp rfl) (fun w' hs => RetV.no (fun h => g1 h.2.1) hs.below)
theorem c93 (s : Sp) (w : World) : Calls Tryz.prog 93 #[.agg (encSp s).toArray] w (RetV w (.bool (decide (Ord s 0 13000000)))) := by
  refine enter (args := [.agg (encSp s).toArray]) Tryz.func93 rfl Tryz.ntmps93 rfl (SH.refl _) ?_
  repeat' (first | refine rn ?_ | (refine zb ?_; intro _ _) | (refine za ?_; intro _ _) | (refine zs ?_; intro _ _))
  refine TL_callV rfl rfl rfl (fun w h => c131 s 13000000 w) ?_
  repeat' (first | refine rn ?_ | (refine zb ?_; intro _ _) | (refine za ?_; intro _ _) | (refine zs ?_; intro _ _))
  exact TQ_ret1 Tryz.results93 (RV.tmp rfl) (fun w' hs => ⟨rfl, hs.below⟩)
/-- A valid net. -/
structure OkNt (n : Nt) : Prop where
  c16 : n.canals.length ≤ 16
  f12 : n.fields.length ≤ 12
  dry : In n.dry 0 23040
  days : In n.days 1 16
  can : ∀ (i : Nat) c, n.canals[i]? = some c → In c.fr 0 i ∧ Ord c.seep 0 1000 ∧ Ord c.fill 0 10000000
  fld : ∀ k ∈ n.fields, In k 0 n.canals.length
  nd : n.fields.Nodup
theorem c54 (n : Nt) (hn : OkNt n) (w : World) : Calls Tryz.prog 54 #[.agg (encNt n).toArray] w (RetV w (.int .i64 (n.days * 1440))) := by
  have := hn.days.1; have := hn.days.2
  refine enter (args := [.agg (encNt n).toArray]) Tryz.func54 rfl Tryz.ntmps54 rfl (SH.refl _) ?_
  repeat' (first | refine rn ?_ | (refine zb ?_; intro _ _) | (refine za ?_; intro _ _) | (refine zs ?_; intro _ _))
  exact TQ_ret1 Tryz.results54 (RV.tmp rfl) (fun w' hs => ⟨rfl, hs.below⟩)
theorem c50 (n : Nt) (hn : OkNt n) (l : List Int) (ao : Option Addr) (c : Nat) (hl : Small l.length) (w : World) (ha : Sl w 1 encI ao l) : Calls Tryz.prog 50 #[.agg (encNt n).toArray, .slice ao l.length c] w (RetV w (.bool (decide (∀ x ∈ l, In x 0 ((n.fields.length : Int) - 1))))) := by
  have := hn.f12
  refine enter (args := [.agg (encNt n).toArray, .slice ao l.length c]) Tryz.func50 rfl Tryz.ntmps50 rfl (SH.refl _) ?_
  repeat' (first | refine rn ?_ | (refine zb ?_; intro _ _) | (refine za ?_; intro _ _) | (refine zs ?_; intro _ _))
  refine TL_callV rfl rfl rfl (fun w h => c51 0 ((n.fields.length : Int) - 1) l ao c hl w (h.sl ha)) ?_
  repeat' (first | refine rn ?_ | (refine zb ?_; intro _ _) | (refine za ?_; intro _ _) | (refine zs ?_; intro _ _))
  exact TQ_ret1 Tryz.results50 (RV.tmp rfl) (fun w' hs => ⟨rfl, hs.below⟩)
def fset (l : List Int) : Int → Option Value := fun k => if k ∈ l then some (.bool true) else none
theorem fset_snoc (l : List Int) (x : Int) : fupd (fset l) x (.bool true) = fset (l ++ [x]) := by
  funext k
  unfold fupd fset
  by_cases h : k = x
  · subst h; simp
  · rw [if_neg h]; simp [h]
theorem c92 (n : Nt) (hn : OkNt n) (w : World) (hnc : Sl w 5 encCn n.cao n.canals) (hnf : Sl w 1 encI n.fao n.fields) : Calls Tryz.prog 92 #[.agg (encNt n).toArray] w (RetV w (.int .i64 0)) := by
  have h16 := hn.c16; have h12 := hn.f12
  have hd := hn.dry; have hdy := hn.days
  refine enter (args := [.agg (encNt n).toArray]) Tryz.func92 rfl Tryz.ntmps92 rfl (SH.refl _) ?_
  repeat' (first | refine rn ?_ | (refine zb ?_; intro _ _) | (refine za ?_; intro _ _) | (refine zs ?_; intro _ _))
  rename_i b1 _
  refine TL_gsplit_dec rfl rfl (fun g => by omega) (fun g1 => ?_)
  repeat' (first | refine rn ?_ | (refine zb ?_; intro _ _) | (refine za ?_; intro _ _) | (refine zs ?_; intro _ _))
  refine TL_gsplit_dec rfl rfl (fun g => by omega) (fun g2 => ?_)
  repeat' (first | refine rn ?_ | (refine zb ?_; intro _ _) | (refine za ?_; intro _ _) | (refine zs ?_; intro _ _))
  refine TL_callV rfl rfl rfl (fun w h => c51 0 23040 [n.dry] _ 1 (by simp [Small]) w (Sl.of_blk h (List.Mem.head _) (fun y _ => rfl) ⟨[], rfl⟩)) ?_
  rw [decide_eq_true (show ∀ x ∈ [n.dry], In x 0 23040 from fun x hx => by rw [List.mem_singleton.1 hx]; exact hd)]
  repeat' (first | refine rn ?_ | (refine zb ?_; intro _ _) | (refine za ?_; intro _ _) | (refine zs ?_; intro _ _))
  refine TL_callV rfl rfl rfl (fun w h => c51 1 16 [n.days] _ 1 (by simp [Small]) w (Sl.of_blk h (List.Mem.head _) (fun y _ => rfl) ⟨[], rfl⟩)) ?_
  rw [decide_eq_true (show ∀ x ∈ [n.days], In x 1 16 from fun x hx => by rw [List.mem_singleton.1 hx]; exact hdy)]
  repeat' (first | refine rn ?_ | (refine zb ?_; intro _ _) | (refine za ?_; intro _ _) | (refine zs ?_; intro _ _))
  refine TL_callV rfl rfl rfl (fun w h => c51 0 n.canals.length n.fields n.fao n.fc (by unfold Small; omega) w (h.sl hnf)) ?_
  rw [decide_eq_true hn.fld]
  repeat' (first | refine rn ?_ | (refine zb ?_; intro _ _) | (refine za ?_; intro _ _) | (refine zs ?_; intro _ _))
  refine TC_loop (σ := Nat) (fun k => k ≤ n.canals.length) (fun k => [(1, .pointer (some ⟨b1, 0, none⟩)), (42, .slice n.cao n.canals.length n.cc), (43, .int .i64 n.canals.length), (44, .int .i64 k)]) (fun k => [(b1, .cells (encNt n) 57)]) (fun k => n.canals.length - k) 0 (Nat.zero_le _) sb (fun w h => h.sub su) (fun k hk => ?_)
  repeat' (first | refine rn ?_ | (refine zb ?_; intro _ _) | (refine za ?_; intro _ _) | (refine zs ?_; intro _ _))
  refine TC_cond_dec rfl (fun g3 => ?_) (fun g3 => ?_)
  · have hlt : k < n.canals.length := by omega
    obtain ⟨c, hc⟩ : ∃ x, n.canals[k]? = some x := ⟨_, List.getElem?_eq_getElem hlt⟩
    obtain ⟨q1, q2, q3⟩ := hn.can k c hc
    repeat' (first | refine rn ?_ | (refine zb ?_; intro _ _) | (refine za ?_; intro _ _) | (refine zs ?_; intro _ _))
    refine TL_index k rfl rfl rfl (fun w h => h.sl hnc) rfl hlt (Nat.le_refl _) ?_
    refine TL_load_eln (u := c) rfl rfl (fun w h => h.sl hnc) hc rfl ?_
    repeat' (first | refine rn ?_ | (refine zb ?_; intro _ _) | (refine za ?_; intro _ _) | (refine zs ?_; intro _ _))
    refine TL_callV rfl rfl rfl (fun w h => c51 0 k [c.fr] _ 1 (by simp [Small]) w (Sl.of_blk h (List.Mem.head _) (fun y _ => rfl) ⟨[], rfl⟩)) ?_
    rw [decide_eq_true (show ∀ x ∈ [c.fr], In x 0 k from fun x hx => by rw [List.mem_singleton.1 hx]; exact q1)]
    repeat' (first | refine rn ?_ | (refine zb ?_; intro _ _) | (refine za ?_; intro _ _) | (refine zs ?_; intro _ _))
    refine TL_callV rfl rfl rfl (fun w h => c131 c.seep 1000 w) ?_
    rw [decide_eq_true q2]
    repeat' (first | refine rn ?_ | (refine zb ?_; intro _ _) | (refine za ?_; intro _ _) | (refine zs ?_; intro _ _))
    refine TL_callV rfl rfl rfl (fun w h => c131 c.fill 10000000 w) ?_
    rw [decide_eq_true q3]
    repeat' (first | refine rn ?_ | (refine zb ?_; intro _ _) | (refine za ?_; intro _ _) | (refine zs ?_; intro _ _))
    exact TQ_round (k + 1) (by omega) (by omega) sb (fun w h => h.sub su)
  · repeat' (first | refine rn ?_ | (refine zb ?_; intro _ _) | (refine za ?_; intro _ _) | (refine zs ?_; intro _ _))
    refine TL_makeMap rfl (fun bm _ => ?_)
    repeat' (first | refine rn ?_ | (refine zb ?_; intro _ _) | (refine za ?_; intro _ _) | (refine zs ?_; intro _ _))
    refine TC_loop (σ := Nat × Array MapEntry × Nat) (fun q => q.1 ≤ n.fields.length ∧ MU .i64 q.2.1.toList (fset (n.fields.take q.1))) (fun q => [(1, .pointer (some ⟨b1, 0, none⟩)), (5, .map (some bm)), (70, .slice n.fao n.fields.length n.fc), (71, .int .i64 n.fields.length), (72, .int .i64 q.1)]) (fun q => [(bm, .obj (.map q.2.1 q.2.2)), (b1, .cells (encNt n) 57)]) (fun q => n.fields.length - q.1) (0, #[], 0) ⟨Nat.zero_le _, MU.nil⟩ sb (fun w h => h) (fun q hq => ?_)
    obtain ⟨j, es, clk⟩ := q
    obtain ⟨hj, hmu⟩ := hq
    dsimp only at hj hmu ⊢
    repeat' (first | refine rn ?_ | (refine zb ?_; intro _ _) | (refine za ?_; intro _ _) | (refine zs ?_; intro _ _))
    refine TC_cond_dec rfl (fun g4 => ?_) (fun g4 => ?_)
    · have hlt : j < n.fields.length := by omega
      obtain ⟨x, hx⟩ : ∃ x, n.fields[j]? = some x := ⟨_, List.getElem?_eq_getElem hlt⟩
      repeat' (first | refine rn ?_ | (refine zb ?_; intro _ _) | (refine za ?_; intro _ _) | (refine zs ?_; intro _ _))
      refine TL_index j rfl rfl rfl (fun w h => h.sl hnf) rfl hlt (Nat.le_refl _) ?_
      refine TL_load_el1 (u := x) rfl rfl (fun w h => h.sl hnf) hx rfl ?_
      repeat' (first | refine rn ?_ | (refine zb ?_; intro _ _) | (refine za ?_; intro _ _) | (refine zs ?_; intro _ _))
      refine TL_mapSetU (.inl rfl) rfl rfl rfl (fun _ _ => up) hmu (fun es2 clk2 hmu2 => ?_)
      repeat' (first | refine rn ?_ | (refine zb ?_; intro _ _) | (refine za ?_; intro _ _) | (refine zs ?_; intro _ _))
      refine TQ_round (j + 1, es2, clk2) ⟨by dsimp only; omega, ?_⟩ (by dsimp only; omega) sb (fun w h => h)
      rw [fset_snoc] at hmu2
      rw [show n.fields.take (j + 1) = n.fields.take j ++ [x] by rw [List.take_add_one, hx]; rfl]
      exact hmu2
    · have hjl : j = n.fields.length := by omega
      subst hjl
      rw [List.take_length] at hmu
      have hsz : es.size = n.fields.length := by
        have := hmu.len hn.nd (fun k => by unfold fset; by_cases h : k ∈ n.fields <;> simp [h])
        simpa using this
      repeat' (first | refine rn ?_ | (refine zb ?_; intro _ _) | (refine za ?_; intro _ _) | (refine zs ?_; intro _ _))
      refine TL_lenMap rfl rfl (List.Mem.head _) ?_
      rw [hsz]
      repeat' (first | refine rn ?_ | (refine zb ?_; intro _ _) | (refine za ?_; intro _ _) | (refine zs ?_; intro _ _))
      refine TC_cond_dec rfl (fun g => absurd rfl g) (fun _ => ?_)
      repeat' (first | refine rn ?_ | (refine zb ?_; intro _ _) | (refine za ?_; intro _ _) | (refine zs ?_; intro _ _))
      exact TQ_ret1 Tryz.results92 (RV.tmp rfl) (fun w' hs => ⟨rfl, hs.below⟩)
theorem c49 (n : Nt) (hn : OkNt n) (f : Sp) (hf : Ord f 0 13000000) (w : World) (hnc : Sl w 5 encCn n.cao n.canals) (hnf : Sl w 1 encI n.fao n.fields) : Calls Tryz.prog 49 #[.agg (encNt n).toArray, .agg (encSp f).toArray] w (RetV w (.int .i64 0)) := by
  refine enter (args := [.agg (encNt n).toArray, .agg (encSp f).toArray]) Tryz.func49 rfl Tryz.ntmps49 rfl (SH.refl _) ?_
  repeat' (first | refine rn ?_ | (refine zb ?_; intro _ _) | (refine za ?_; intro _ _) | (refine zs ?_; intro _ _))
  refine TL_callV rfl rfl rfl (fun w h => c92 n hn w (h.sl hnc) (h.sl hnf)) ?_
  repeat' (first | refine rn ?_ | (refine zb ?_; intro _ _) | (refine za ?_; intro _ _) | (refine zs ?_; intro _ _))
  refine TL_callV rfl rfl rfl (fun w h => c93 f w) ?_
  rw [decide_eq_true hf]
  repeat' (first | refine rn ?_ | (refine zb ?_; intro _ _) | (refine za ?_; intro _ _) | (refine zs ?_; intro _ _))
  exact TQ_ret1 Tryz.results49 (RV.tmp rfl) (fun w' hs => ⟨rfl, hs.below⟩)
end Go.Proofs.YtkpkebpofpcmaaaGreatDoor
