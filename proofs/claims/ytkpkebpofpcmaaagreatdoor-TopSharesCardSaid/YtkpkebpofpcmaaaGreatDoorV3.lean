/- Walks of the package gallery, at the example of a gallery of one reach: whether it is valid; it is opened. -/
import Derived.Test.YtkpkebpofpcmaaaGreatDoorEngR
import Derived.Test.YtkpkebpofpcmaaaGreatDoorV2
import Derived.Test.YtkpkebpofpcmaaaGreatDoorT1
import Derived.Test.YtkpkebpofpcmaaaGreatDoorEngM
import Derived.Test.YtkpkebpofpcmaaaGreatDoorEngH
namespace Go.Proofs.YtkpkebpofpcmaaaGreatDoor
open Go Go.Eng Go.RowKit Go.Proofs
set_option maxHeartbeats 4000000
set_option maxRecDepth 10000
attribute [local irreducible] TL TC TQ RN

theorem mapAddG (b k : Nat) : Option.map (fun x : Addr => x.add k) (some ⟨b, 0, none⟩) = some ⟨b, k, none⟩ := by simp [add_plain']
abbrev Rc := Sp × Sp × Sp
def encRc (r : Rc) : List Value := [.int .i64 r.1.1, .int .i64 r.1.2, .int .i64 r.2.1.1, .int .i64 r.2.1.2, .int .i64 r.2.2.1, .int .i64 r.2.2.2]
def rc0 : Rc := ((5, 5), (0, 0), (0, 0))
def rcV : List Value := [.int .i64 5, .int .i64 5, .int .i64 0, .int .i64 0, .int .i64 0, .int .i64 0]
theorem c219 (p : Rc → Bool) (kf : FuncId) (cl : List Value) [EntP Tryz.prog kf] (l : List Rc) (ao : Option Addr) (c : Nat) (hn : Small l.length) (w : World)
    (hsl : Sl w 6 encRc ao l) (hcl : ∀ x ∈ l, ∀ w', Below w.heap.size w w' → Calls Tryz.prog kf (Value.agg (encRc x).toArray :: cl).toArray w' (RetV w' (.bool (p x)))) :
    Calls Tryz.prog 219 #[.slice ao l.length c, .func (.func kf) #[] cl.toArray] w (RetV w (.int .i64 (fidx p l))) := by
  unfold Small at hn
  refine enter (args := [.slice ao l.length c, .func (.func kf) #[] cl.toArray]) Tryz.func219 rfl Tryz.ntmps219 rfl (SH.refl _) ?_
  repeat' (first | refine rn ?_ | (refine zb ?_; intro _ _) | (refine za ?_; intro _ _) | (refine zs ?_; intro _ _))
  refine TC_loop (σ := Nat) (fun k => k ≤ l.length ∧ ∀ i x, i < k → l[i]? = some x → p x = false) (fun k => [(0, .slice ao l.length c), (1, .func (.func kf) #[] cl.toArray), (7, .int .i64 l.length), (8, .int .i64 k)]) (fun k => []) (fun k => l.length - k) 0 ⟨Nat.zero_le _, fun i x h => by omega⟩ sb (fun w h => h) (fun k hk => ?_)
  repeat' (first | refine rn ?_ | (refine zb ?_; intro _ _) | (refine za ?_; intro _ _) | (refine zs ?_; intro _ _))
  refine TC_cond_dec rfl (fun h1 => ?_) (fun h1 => ?_)
  · have hlt : k < l.length := by omega
    obtain ⟨x, hx⟩ : ∃ x, l[k]? = some x := ⟨_, List.getElem?_eq_getElem hlt⟩
    repeat' (first | refine rn ?_ | (refine zb ?_; intro _ _) | (refine za ?_; intro _ _) | (refine zs ?_; intro _ _))
    refine TL_index k rfl rfl rfl (fun w h => h.sl hsl) rfl hlt (Nat.le_refl _) ?_
    refine TL_load_eln (u := x) rfl rfl (fun w h => h.sl hsl) hx rfl ?_
    refine TL_callV rfl rfl rfl (fun w h => hcl x (List.mem_of_getElem? hx) w h.below) ?_
    repeat' (first | refine rn ?_ | (refine zb ?_; intro _ _) | (refine za ?_; intro _ _) | (refine zs ?_; intro _ _))
    refine TC_cond rfl (fun h2 => ?_) (fun h2 => ?_)
    · repeat' (first | refine rn ?_ | (refine zb ?_; intro _ _) | (refine za ?_; intro _ _) | (refine zs ?_; intro _ _))
      refine TQ_ret1 Tryz.results219 (RV.tmp rfl) (fun w' hs => ⟨by rw [fidx_at hx h2 hk.2], hs.below⟩)
    · repeat' (first | refine rn ?_ | (refine zb ?_; intro _ _) | (refine za ?_; intro _ _) | (refine zs ?_; intro _ _))
      refine TQ_round (k + 1) ⟨by omega, fun i y hi hy => ?_⟩ (by omega) sb (fun w h => h)
      rcases Nat.lt_or_ge i k with h | h
      · exact hk.2 i y h hy
      · have : i = k := by omega
        subst this; rw [hx] at hy; cases hy; exact h2
  · have hkl : k = l.length := by omega
    subst hkl
    repeat' (first | refine rn ?_ | (refine zb ?_; intro _ _) | (refine za ?_; intro _ _) | (refine zs ?_; intro _ _))
    refine TQ_ret1 Tryz.results219 (RV.tmp rfl) (fun w' hs => ⟨?_, hs.below⟩)
    rw [fidx_none (fun x hx => by
      obtain ⟨i, hi, rfl⟩ := List.getElem_of_mem hx
      exact hk.2 i _ hi (List.getElem?_eq_getElem hi))]

theorem c201 (p : Rc → Bool) (kf : FuncId) (cl : List Value) [EntP Tryz.prog kf] (l : List Rc) (ao : Option Addr) (c : Nat) (hn : Small l.length) (w : World)
    (hsl : Sl w 6 encRc ao l) (hcl : ∀ x ∈ l, ∀ w', Below w.heap.size w w' → Calls Tryz.prog kf (Value.agg (encRc x).toArray :: cl).toArray w' (RetV w' (.bool (p x)))) :
    Calls Tryz.prog 201 #[.slice ao l.length c, .func (.func kf) #[] cl.toArray] w (RetV w (.bool (l.any p))) := by
  refine enter (args := [.slice ao l.length c, .func (.func kf) #[] cl.toArray]) Tryz.func201 rfl Tryz.ntmps201 rfl (SH.refl _) ?_
  repeat' (first | refine rn ?_ | (refine zb ?_; intro _ _) | (refine za ?_; intro _ _) | (refine zs ?_; intro _ _))
  refine TL_callV rfl rfl rfl (fun w h => c219 p kf cl l ao c hn w (h.sl hsl) (fun x hx w' hb => hcl x hx w' (h.below.trans (hb.mono h.hB)))) ?_
  repeat' (first | refine rn ?_ | (refine zb ?_; intro _ _) | (refine za ?_; intro _ _) | (refine zs ?_; intro _ _))
  exact TQ_ret1 Tryz.results201 (RV.tmp rfl) (fun w' hs => ⟨by rw [fidx_any], hs.below⟩)

theorem c142 (n : Int) (hn : 0 ≤ n ∧ n ≤ 100000000) (w : World) : Calls Tryz.prog 142 #[.agg rcV.toArray, .int .i64 n] w (RetV w (.int .i64 (min n 5))) := by
  refine enter (args := [.agg rcV.toArray, .int .i64 n]) Tryz.func142 rfl Tryz.ntmps142 rfl (SH.refl _) ?_
  repeat' (first | refine rn ?_ | (refine zb ?_; intro _ _) | (refine za ?_; intro _ _) | (refine zs ?_; intro _ _))
  refine TQ_ret1 Tryz.results142 (RV.tmp rfl) (fun w' hs => ⟨?_, hs.below⟩)
  rw [show max 0 (min n 5 - 0) + 0 = min n 5 by omega]
theorem c143 (n : Int) (hn : 0 ≤ n ∧ n ≤ 100000000) (w : World) : Calls Tryz.prog 143 #[.agg rcV.toArray, .int .i64 n] w (RetV w (.int .i64 (min n 5))) := by
  refine enter (args := [.agg rcV.toArray, .int .i64 n]) Tryz.func143 rfl Tryz.ntmps143 rfl (SH.refl _) ?_
  repeat' (first | refine rn ?_ | (refine zb ?_; intro _ _) | (refine za ?_; intro _ _) | (refine zs ?_; intro _ _))
  refine TQ_ret1 Tryz.results143 (RV.tmp rfl) (fun w' hs => ⟨?_, hs.below⟩)
  rw [show max 0 (min n 5 - 0) + 0 = min n 5 by omega]
def badS (s : Sp) (hi : Int) : Bool := decide (s.1 < 0 ∨ s.2 < s.1 ∨ hi < s.2)
theorem c203 (s : Sp) (hi : Int) (b : Nat) (w : World) (h : Sl w 1 encI (some ⟨b, 0, none⟩) [hi]) : Calls Tryz.prog 203 #[.agg (encSp s).toArray, .pointer (some ⟨b, 0, none⟩)] w (RetV w (.bool (badS s hi))) := by
  unfold badS
  refine enter (args := [.agg (encSp s).toArray, .pointer (some ⟨b, 0, none⟩)]) Tryz.func203 rfl Tryz.ntmps203 rfl (SH.refl _) ?_
  repeat' (first | refine rn ?_ | (refine zb ?_; intro _ _) | (refine za ?_; intro _ _) | (refine zs ?_; intro _ _))
  refine TL_gsplit_dec rfl rfl (fun g1 => ?_) (fun g1 => ?_)
  · repeat' (first | refine rn ?_ | (refine zb ?_; intro _ _) | (refine za ?_; intro _ _) | (refine zs ?_; intro _ _))
    exact TQ_ret1 Tryz.results203 (RV.tmp rfl) (fun w' hs => RetV.yes (.inl g1) hs.below)
  repeat' (first | refine rn ?_ | (refine zb ?_; intro _ _) | (refine za ?_; intro _ _) | (refine zs ?_; intro _ _))
  refine TL_gsplit_dec rfl rfl (fun g2 => ?_) (fun g2 => ?_)
  · repeat' (first | refine rn ?_ | (refine zb ?_; intro _ _) | (refine za ?_; intro _ _) | (refine zs ?_; intro _ _))
    exact TQ_ret1 Tryz.results203 (RV.tmp rfl) (fun w' hs => RetV.yes (.inr (.inl g2)) hs.below)
  repeat' (first | refine rn ?_ | (refine zb ?_; intro _ _) | (refine za ?_; intro _ _) | (refine zs ?_; intro _ _))
  refine TL_load_el1 (i := 0) (o := 0) rfl rfl (fun w h' => h'.sl h) rfl rfl ?_
  repeat' (first | refine rn ?_ | (refine zb ?_; intro _ _) | (refine za ?_; intro _ _) | (refine zs ?_; intro _ _))
  refine TQ_ret1 Tryz.results203 (RV.tmp rfl) (fun w' hs => ⟨?_, hs.below⟩)
  have : (hi < s.2) ↔ (s.1 < 0 ∨ s.2 < s.1 ∨ hi < s.2) := ⟨fun h => .inr (.inr h), fun h => by omega⟩
  rw [decide_eq_decide.2 this]
theorem c164 (hi : Int) (l : List Sp) (ao : Option Addr) (c : Nat) (hn : Small l.length) (w : World) (hl : Sl w 2 encSp ao l) : Calls Tryz.prog 164 #[.int .i64 hi, .slice ao l.length c] w (RetV w (.bool (!(l.any fun s => badS s hi)))) := by
  refine enter (args := [.int .i64 hi, .slice ao l.length c]) Tryz.func164 rfl Tryz.ntmps164 rfl (SH.refl _) ?_
  repeat' (first | refine rn ?_ | (refine zb ?_; intro _ _) | (refine za ?_; intro _ _) | (refine zs ?_; intro _ _))
  rename_i b2 _
  refine TL_callV rfl rfl rfl (fun w h => c144 (fun s => badS s hi) 203 [.pointer (some ⟨b2, 0, none⟩)] l ao c hn w (h.sl hl) (fun x _ w' hb => c203 x hi b2 w' (Sl.of_blk (h.ext hb) mm (fun _ _ => rfl) ⟨[], rfl⟩))) ?_
  repeat' (first | refine rn ?_ | (refine zb ?_; intro _ _) | (refine za ?_; intro _ _) | (refine zs ?_; intro _ _))
  exact TQ_ret1 Tryz.results164 (RV.tmp rfl) (fun w' hs => ⟨rfl, hs.below⟩)
theorem c166 (w : World) : Calls Tryz.prog 166 #[.int .i64 1, .int .i64 12, .int .i64 1] w (RetV w (.bool true)) := by
  refine enter (args := [.int .i64 1, .int .i64 12, .int .i64 1]) Tryz.func166 rfl Tryz.ntmps166 rfl (SH.refl _) ?_
  repeat' (first | refine rn ?_ | (refine zb ?_; intro _ _) | (refine za ?_; intro _ _) | (refine zs ?_; intro _ _))
  exact TQ_ret1 Tryz.results166 (RV.tmp rfl) (fun w' hs => ⟨rfl, hs.below⟩)
theorem c200 (w : World) : Calls Tryz.prog 200 #[.agg rcV.toArray] w (RetV w (.bool true)) := by
  refine enter (args := [.agg rcV.toArray]) Tryz.func200 rfl Tryz.ntmps200 rfl (SH.refl _) ?_
  repeat' (first | refine rn ?_ | (refine zb ?_; intro _ _) | (refine za ?_; intro _ _) | (refine zs ?_; intro _ _))
  refine TL_callV rfl rfl rfl (fun w h => c164 1000000 [(5, 5), (0, 0), (0, 0)] _ 3 (by simp [Small]) w (Sl.of_blk h mm (fun y _ => rfl) ⟨[], rfl⟩)) ?_
  repeat' (first | refine rn ?_ | (refine zb ?_; intro _ _) | (refine za ?_; intro _ _) | (refine zs ?_; intro _ _))
  exact TQ_ret1 Tryz.results200 (RV.tmp rfl) (fun w' hs => ⟨rfl, hs.below⟩)
theorem c202 (b : Nat) (w : World) (h : Sl w 1 encV (some ⟨b, 0, none⟩) [.func (.func 200) #[] #[]]) : Calls Tryz.prog 202 #[.agg rcV.toArray, .pointer (some ⟨b, 0, none⟩)] w (RetV w (.bool false)) := by
  refine enter (args := [.agg rcV.toArray, .pointer (some ⟨b, 0, none⟩)]) Tryz.func202 rfl Tryz.ntmps202 rfl (SH.refl _) ?_
  repeat' (first | refine rn ?_ | (refine zb ?_; intro _ _) | (refine za ?_; intro _ _) | (refine zs ?_; intro _ _))
  refine TL_load_el1 (i := 0) (o := 0) rfl rfl (fun w h' => h'.sl h) rfl rfl ?_
  repeat' (first | refine rn ?_ | (refine zb ?_; intro _ _) | (refine za ?_; intro _ _) | (refine zs ?_; intro _ _))
  refine TL_callV rfl rfl rfl (fun w h => c200 w) ?_
  repeat' (first | refine rn ?_ | (refine zb ?_; intro _ _) | (refine za ?_; intro _ _) | (refine zs ?_; intro _ _))
  exact TQ_ret1 Tryz.results202 (RV.tmp rfl) (fun w' hs => ⟨rfl, hs.below⟩)
theorem c163 (ao : Option Addr) (c : Nat) (w : World) (h : Sl w 6 encRc ao [rc0]) : Calls Tryz.prog 163 #[.slice ao 1 c] w (RetV w (.int .i64 0)) := by
  refine enter (args := [.slice ao 1 c]) Tryz.func163 rfl Tryz.ntmps163 rfl (SH.refl _) ?_
  repeat' (first | refine rn ?_ | (refine zb ?_; intro _ _) | (refine za ?_; intro _ _) | (refine zs ?_; intro _ _))
  rename_i b3 _
  refine TL_callV rfl rfl rfl (fun w h => c166 w) ?_
  repeat' (first | refine rn ?_ | (refine zb ?_; intro _ _) | (refine za ?_; intro _ _) | (refine zs ?_; intro _ _))
  refine TL_callV rfl rfl rfl (fun w h' => c201 (fun _ => false) 202 [.pointer (some ⟨b3, 0, none⟩)] [rc0] ao c (by simp [Small]) w (h'.sl h) (fun x hx w' hb => by rw [List.mem_singleton.1 hx]; exact c202 b3 w' (Sl.of_blk (h'.ext hb) mm (fun _ _ => rfl) ⟨[], rfl⟩))) ?_
  repeat' (first | refine rn ?_ | (refine zb ?_; intro _ _) | (refine za ?_; intro _ _) | (refine zs ?_; intro _ _))
  exact TQ_ret1 Tryz.results163 (RV.tmp rfl) (fun w' hs => ⟨rfl, hs.below⟩)
theorem c204 (f : Value) (w : World) : Calls Tryz.prog 204 #[.slice none 0 0, f] w (RetV w (.int .i64 (-1))) := by
  refine enter (args := [.slice none 0 0, f]) Tryz.func204 rfl Tryz.ntmps204 rfl (SH.refl _) ?_
  repeat' (first | refine rn ?_ | (refine zb ?_; intro _ _) | (refine za ?_; intro _ _) | (refine zs ?_; intro _ _) | (refine TQ_roundN ?_) | (refine TC_loopN 8 ?_))
  exact TQ_ret1 Tryz.results204 (RV.tmp rfl) (fun w' hs => ⟨rfl, hs.below⟩)
theorem c167 (f : Value) (w : World) : Calls Tryz.prog 167 #[.slice none 0 0, f] w (RetV w (.bool false)) := by
  refine enter (args := [.slice none 0 0, f]) Tryz.func167 rfl Tryz.ntmps167 rfl (SH.refl _) ?_
  repeat' (first | refine rn ?_ | (refine zb ?_; intro _ _) | (refine za ?_; intro _ _) | (refine zs ?_; intro _ _))
  refine TL_callV rfl rfl rfl (fun w h => c204 f w) ?_
  repeat' (first | refine rn ?_ | (refine zb ?_; intro _ _) | (refine za ?_; intro _ _) | (refine zs ?_; intro _ _))
  exact TQ_ret1 Tryz.results167 (RV.tmp rfl) (fun w' hs => ⟨rfl, hs.below⟩)
theorem c139 (ao : Option Addr) (c : Nat) (w : World) (h : Sl w 6 encRc ao [rc0]) : Calls Tryz.prog 139 #[.slice ao 1 c, .agg (encSp (3, 8)).toArray, .slice none 0 0] w (RetV w (.int .i64 0)) := by
  refine enter (args := [.slice ao 1 c, .agg (encSp (3, 8)).toArray, .slice none 0 0]) Tryz.func139 rfl Tryz.ntmps139 rfl (SH.refl _) ?_
  repeat' (first | refine rn ?_ | (refine zb ?_; intro _ _) | (refine za ?_; intro _ _) | (refine zs ?_; intro _ _))
  refine TL_callV rfl rfl rfl (fun w h' => c163 ao c w (h'.sl h)) ?_
  repeat' (first | refine rn ?_ | (refine zb ?_; intro _ _) | (refine za ?_; intro _ _) | (refine zs ?_; intro _ _))
  refine TL_callV rfl rfl rfl (fun w h => c164 1000000 [(3, 8)] _ 1 (by simp [Small]) w (Sl.of_blk h mm (fun y _ => rfl) ⟨[], rfl⟩)) ?_
  repeat' (first | refine rn ?_ | (refine zb ?_; intro _ _) | (refine za ?_; intro _ _) | (refine zs ?_; intro _ _))
  refine TL_callV rfl rfl rfl (fun w h => c167 _ w) ?_
  repeat' (first | refine rn ?_ | (refine zb ?_; intro _ _) | (refine za ?_; intro _ _) | (refine zs ?_; intro _ _))
  exact TQ_ret1 Tryz.results139 (RV.tmp rfl) (fun w' hs => ⟨rfl, hs.below⟩)
theorem c221 (w : World) : Calls Tryz.prog 221 #[.int .u64 1, .int .u64 2] w (RetV w (.tuple #[.int .u64 0, .int .u64 2])) := by
  refine enter (args := [.int .u64 1, .int .u64 2]) Tryz.func221 rfl Tryz.ntmps221 rfl (SH.refl _) ?_
  repeat' (first | refine rn ?_ | (refine zb ?_; intro _ _) | (refine za ?_; intro _ _) | (refine zs ?_; intro _ _) | (apply TL_arith; exact rfl; exact rfl; exact rfl; exact fun w => ⟨rfl, rfl⟩))
  exact TQ_ret2 Tryz.results221 (RV.tmp rfl) (RV.tmp rfl) (fun w' hs => ⟨rfl, hs.below⟩)
theorem c205 (w : World) : Calls Tryz.prog 205 #[.int .u64 1, .int .u64 2] w (RetV w (.tuple #[.int .u64 0, .int .u64 2])) := by
  refine enter (args := [.int .u64 1, .int .u64 2]) Tryz.func205 rfl Tryz.ntmps205 rfl (SH.refl _) ?_
  repeat' (first | refine rn ?_ | (refine zb ?_; intro _ _) | (refine za ?_; intro _ _) | (refine zs ?_; intro _ _))
  refine TL_callV rfl rfl rfl (fun w h => c221 w) ?_
  repeat' (first | refine rn ?_ | (refine zb ?_; intro _ _) | (refine za ?_; intro _ _) | (refine zs ?_; intro _ _))
  exact TQ_ret2 Tryz.results205 (RV.tmp rfl) (RV.tmp rfl) (fun w' hs => ⟨rfl, hs.below⟩)
def sp13 : Sp := (0, 13000000)
def sp00V : List Value := [.int .i64 0, .int .i64 0]
def sp13V : List Value := [.int .i64 0, .int .i64 13000000]
theorem pu13 : putN 2 (List.flatMap encSp [sp13]) (sp13V ++ sp00V) = some (sp13V ++ sp13V) := rfl
theorem c168 (b c : Nat) (w : World) (h : Sl w 2 encSp (some ⟨b, 0, none⟩) [sp13]) : Calls Tryz.prog 168 #[.slice (some ⟨b, 0, none⟩) 1 c, .int .i64 2] w (RetP w.heap.size w (fun b : Nat => .slice (some ⟨b, 0, none⟩) 2 2) (fun b => [(b, .cells (sp13V ++ sp13V) 25)]) (fun _ => True)) := by
  refine enter (args := [.slice (some ⟨b, 0, none⟩) 1 c, .int .i64 2]) Tryz.func168 rfl Tryz.ntmps168 rfl (SH.refl _) ?_
  repeat' (first | refine rn ?_ | (refine zb ?_; intro _ _) | (refine za ?_; intro _ _) | (refine zs ?_; intro _ _))
  refine TL_callV rfl rfl rfl (fun w h => c205 w) ?_
  repeat' (first | refine rn ?_ | (refine zb ?_; intro _ _) | (refine za ?_; intro _ _) | (refine zs ?_; intro _ _))
  refine TL_makeSlice2 2 rfl rfl rfl rfl rfl (by decide) (by decide) (fun nb _ => ?_)
  repeat' (first | refine rn ?_ | (refine zb ?_; intro _ _) | (refine za ?_; intro _ _) | (refine zs ?_; intro _ _))
  refine TL_copy (b := nb) (o := 0) (l2 := [sp13]) (enc := encSp) (cs' := sp13V ++ sp00V) (T := 25) rfl rfl rfl rfl (fun w h' => h'.sl h) (fun _ _ => rfl) (by exact Upd.head) (by rfl) ?_
  rw [show ((Nat.min 1 2 : Nat) : Int) = 1 from rfl]
  repeat' (first | refine rn ?_ | (refine zb ?_; intro _ _) | (refine za ?_; intro _ _) | (refine zs ?_; intro _ _) | (refine TQ_roundN ?_) | (refine TC_loopN 8 ?_))
  apply TC_draw6 8 7 [] ([(nb, Blk.cells (sp13V ++ sp00V) 25)]) ([]) (List.Perm.refl _); kernel_rfl; exact rfl; exact Tryz.mixed; exact rfl
  · iterate 3 (refine' pv6 ?_; rotate_left)
    (refine' PG6.val rfl rfl rfl (by intro _X; (refine TL_sliceFrom 1 rfl rfl rfl rfl (by decide) ?_; rw [if_neg (by decide), mapAddG]); exact qe) ?_; rotate_left)
    iterate 2 (refine' pv6 ?_; rotate_left)
    (refine' PG6.val rfl rfl rfl (by intro _X; (refine TL_sliceTo 1 rfl rfl rfl rfl (by decide) ?_; rw [if_neg (by decide), mapAddG]); exact qe) ?_; rotate_left)
    (refine' PG6.big (fun v h => v = .int .i64 1 ∧ h = [(nb, Blk.cells (sp13V ++ sp13V) 25)]) rfl rfl rfl (by rintro  _X; refine TL_copy (b := nb) (o := 2) (l2 := [sp13]) (enc := encSp) (cs := sp13V ++ sp00V) (T := 25) rfl rfl rfl rfl (fun w h => Sl.of_blk (k := 2) h mm (fun _ _ => rfl) ⟨sp00V, rfl⟩) (fun _ _ => rfl) up pu13 ?_; exact TL_nil (TQ_QR (h := [(nb, _)]) rfl ⟨rfl, rfl⟩ (fun w h => h.perm (by simp only [List.append_nil, List.nil_append]; exact List.perm_append_comm (l₁ := [_]))))) ?_; rotate_left)
    exact PG6.nil
  rintro _ _ ⟨rfl, rfl⟩
  change TL _ _ _ _ _ _ _ _ _ _ _
  repeat' (first | refine rn ?_ | (refine zb ?_; intro _ _) | (refine za ?_; intro _ _) | (refine zs ?_; intro _ _) | (refine TQ_roundN ?_) | (refine TC_loopN 8 ?_))
  exact TQ_ret1 Tryz.results168 (RV.tmp rfl) (fun w' hs => ⟨nb, trivial, rfl, hs⟩)
theorem c140 (ao : Option Addr) (c : Nat) (w : World) (h : Sl w 6 encRc ao [rc0]) : Calls Tryz.prog 140 #[.slice ao 1 c, .slice none 0 0] w (RetP w.heap.size w (fun q : Nat × Option Addr × Nat × Hp => .agg #[.slice q.2.1 1 q.2.2.1, .slice (some ⟨q.1, 0, none⟩) 2 2]) (fun q => (q.1, .cells (sp13V ++ sp13V) 25) :: q.2.2.2) (fun q => Row 242 6 encRc q.2.1 q.2.2.1 q.2.2.2 [rc0])) := by
  refine enter (args := [.slice ao 1 c, .slice none 0 0]) Tryz.func140 rfl Tryz.ntmps140 rfl (SH.refl _) ?_
  repeat' (first | refine rn ?_ | (refine zb ?_; intro _ _) | (refine za ?_; intro _ _) | (refine zs ?_; intro _ _))
  rename_i b4 _ b5 _ b11 _
  refine TL_callN rfl rfl rfl (fun w h => c168 b11 1 w (Sl.of_blk (k := 2) (l := [sp13]) h (List.Mem.head _) (fun _ _ => rfl) ⟨[], rfl⟩)) ?_
  rintro nb _
  repeat' (first | refine rn ?_ | (refine zb ?_; intro _ _) | (refine za ?_; intro _ _) | (refine zs ?_; intro _ _) | (refine TQ_roundN ?_) | (refine TC_loopN 8 ?_))
  refine TL_index 0 rfl rfl rfl (fun w h' => h'.sl h) rfl (by decide) (by decide) ?_
  refine TL_load_eln (u := rc0) rfl rfl (fun w h' => h'.sl h) rfl rfl ?_
  repeat' (first | refine rn ?_ | (refine zb ?_; intro _ _) | (refine za ?_; intro _ _) | (refine zs ?_; intro _ _) | (refine TQ_roundN ?_) | (refine TC_loopN 8 ?_))
  refine TL_append (l := ([] : List Rc)) (l2 := [rc0]) (enc := encRc) (G := _) rfl (by rfl) rfl rfl rfl rfl rfl (Row.nil _ _ _) pm_here (fun w h => Sl.of_blk h (List.Mem.head _) (fun _ _ => rfl) ⟨[], by rfl⟩) (fun u _ => rfl) (by decide) (by decide) (fun so sc ob hr => ?_)
  repeat' (first | refine rn ?_ | (refine zb ?_; intro _ _) | (refine za ?_; intro _ _) | (refine zs ?_; intro _ _) | (refine TQ_roundN ?_) | (refine TC_loopN 8 ?_))
  exact TQ_ret1 Tryz.results140 (RV.celln rfl mm (by rfl)) (fun w' hs => ⟨(nb, so, sc, ob), hr, rfl, (hs.sub (H' := ob ++ [(nb, Blk.cells (sp13V ++ sp13V) 25)]) su).perm (List.perm_append_comm (l₁ := [_]))⟩)
end Go.Proofs.YtkpkebpofpcmaaaGreatDoor
