/- Walks of the package hour: what each of some tellings tells; how much later a change is. Walks of the package hour: whether changes are valid. Walks of the package hour: the moments of changes, one after the other. Walks of the package hour: Night. -/
import Derived.Test.YtkpkebpofpcmaaaGreatDoorEngR
import Derived.Test.YtkpkebpofpcmaaaGreatDoorH4
namespace Go.Proofs.YtkpkebpofpcmaaaGreatDoor
open Go Go.Eng Go.RowKit Go.Proofs
set_option maxHeartbeats 2000000
set_option maxRecDepth 10000
attribute [local irreducible] TL TC TQ

def toldOk (k : Kp) (l : List Tg) : Bool := l.all fun t => (tellW k t).2
def toldM (k : Kp) (l : List Tg) : List Sp := l.map fun t => (tellW k t).1
def toldL (k : Kp) (l : List Tg) : List Sp := if toldOk k l then toldM k l else []
theorem c80 (k : Kp) (l : List Tg) (ao : Option Addr) (c : Nat) (hn : l.length ≤ 1000000) (w : World) (hl : Sl w 5 encTg ao l) (hk : CkAt w k.1) (hv : Nv w) : Calls Tryz.prog 80 #[.agg (encKp k).toArray, .slice ao l.length c] w
    (RetP w.heap.size w (fun q : Option Addr × Nat × Hp => .tuple #[.slice q.1 (toldL k l).length q.2.1, .bool (toldOk k l)]) (fun q => q.2.2) (fun q => Row 106 2 encSp q.1 q.2.1 q.2.2 (toldL k l))) := by
  refine enter (args := [.agg (encKp k).toArray, .slice ao l.length c]) Tryz.func80 rfl Tryz.ntmps80 rfl (SH.refl _) ?_
  repeat' (first | refine rn ?_ | (refine zb ?_; intro _ _) | (refine za ?_; intro _ _) | (refine zs ?_; intro _ _))
  rename_i b2 _
  refine TC_loop (σ := Nat × Option Addr × Nat × Hp) (fun q => q.1 ≤ l.length ∧ Row 106 2 encSp q.2.1 q.2.2.1 q.2.2.2 (toldM k (l.take q.1)) ∧ toldOk k (l.take q.1) = true) (fun q => [(2, .pointer (some ⟨b2, 0, none⟩)), (6, .slice q.2.1 q.1 q.2.2.1), (11, .slice ao l.length c), (12, .int .i64 l.length), (13, .int .i64 q.1)]) (fun q => q.2.2.2 ++ [(b2, .cells (encKp k) 96)]) (fun q => l.length - q.1) (0, none, 0, []) ⟨Nat.zero_le _, Row.nil _ _ _, rfl⟩ sb (fun w h => h) (fun q hq => ?_)
  obtain ⟨i, so, sc, ob⟩ := q
  obtain ⟨hi, hrow, hok⟩ := hq
  dsimp only at hi hrow hok ⊢
  have hlen : (toldM k (l.take i)).length = i := by unfold toldM; rw [List.length_map, List.length_take]; omega
  repeat' (first | refine rn ?_ | (refine zb ?_; intro _ _) | (refine za ?_; intro _ _) | (refine zs ?_; intro _ _))
  refine TC_cond_dec rfl (fun h1 => ?_) (fun h1 => ?_)
  · have hlt : i < l.length := by omega
    obtain ⟨x, hx⟩ : ∃ x, l[i]? = some x := ⟨_, List.getElem?_eq_getElem hlt⟩
    have htake : l.take (i + 1) = l.take i ++ [x] := by rw [List.take_add_one, hx]; rfl
    repeat' (first | refine rn ?_ | (refine zb ?_; intro _ _) | (refine za ?_; intro _ _) | (refine zs ?_; intro _ _))
    refine TL_index i rfl rfl rfl (fun w h => h.sl hl) rfl hlt (Nat.le_refl _) ?_
    refine TL_load_eln (u := x) rfl rfl (fun w h => h.sl hl) hx rfl ?_
    repeat' (first | refine rn ?_ | (refine zb ?_; intro _ _) | (refine za ?_; intro _ _) | (refine zs ?_; intro _ _))
    refine TL_callV rfl rfl rfl (fun w h => c118 k x w (hk.mono h.below) (hv.mono h.below)) ?_
    unfold tV
    repeat' (first | refine rn ?_ | (refine zb ?_; intro _ _) | (refine za ?_; intro _ _) | (refine zs ?_; intro _ _))
    cases hr : (tellW k x).2 with
    | false =>
      repeat' (first | refine rn ?_ | (refine zb ?_; intro _ _) | (refine za ?_; intro _ _) | (refine zs ?_; intro _ _))
      have e : toldOk k l = false := by
        unfold toldOk
        rw [List.all_eq_false]
        exact ⟨x, List.mem_of_getElem? hx, by rw [hr]; simp⟩
      have e2 : toldL k l = [] := by unfold toldL; rw [if_neg (by rw [e]; simp)]
      rw [e, e2]
      exact TQ_ret2 Tryz.results80 (RV.tmp rfl) (RV.tmp rfl) (fun w' hs => ⟨(none, 0, []), Row.nil _ _ _, rfl, hs.sub (List.nil_sublist _)⟩)
    | true =>
      repeat' (first | refine rn ?_ | (refine zb ?_; intro _ _) | (refine za ?_; intro _ _) | (refine zs ?_; intro _ _))
      refine TL_append (l := toldM k (l.take i)) (l2 := [(tellW k x).1]) (enc := encSp) (G := _) rfl (by rfl) rfl rfl hlen.symm rfl rfl hrow (pm_cons (pm_cons (pm_cons pm_here))) (fun w h => Sl.of_blk h mm (fun _ _ => rfl) ⟨[], by rfl⟩) (fun u _ => rfl) (by simp only [List.length_singleton]; omega) (by simp only [List.length_singleton, maxLen]; omega) (fun so' sc' ob' hrow' => ?_)
      have e : toldM k (l.take i) ++ [(tellW k x).1] = toldM k (l.take (i + 1)) := by rw [htake]; unfold toldM; rw [List.map_append]; rfl
      have hlen2 : (toldM k (l.take (i + 1))).length = i + 1 := by rw [← e, List.length_append, hlen]; rfl
      rw [e] at hrow' ⊢
      rw [hlen2]
      repeat' (first | refine rn ?_ | (refine zb ?_; intro _ _) | (refine za ?_; intro _ _) | (refine zs ?_; intro _ _))
      refine TQ_round (i + 1, so', sc', ob') ⟨hlt, hrow', ?_⟩ (by dsimp only; omega) sb (fun w h => ?_)
      · rw [htake]
        unfold toldOk at hok ⊢
        rw [List.all_append, hok]; simp [hr]
      · exact h.sub (List.Sublist.append_left sl _)
  · have e : l.take i = l := by rw [List.take_of_length_le]; omega
    have e2 : i = l.length := by omega
    rw [e] at hrow hok hlen
    have e3 : toldL k l = toldM k l := by unfold toldL; rw [if_pos hok]
    rw [e3, hok, hlen]
    repeat' (first | refine rn ?_ | (refine zb ?_; intro _ _) | (refine za ?_; intro _ _) | (refine zs ?_; intro _ _))
    exact TQ_ret2 Tryz.results80 (RV.tmp rfl) (RV.tmp rfl) (fun w' hs => ⟨(so, sc, ob), hrow, rfl, hs.sub (List.sublist_append_left _ _)⟩)
def stepW (k : Ck) (c : Cg) : Sp := (wr (c.bowls * k.sinks.1), if c.full then wr (c.bowls * k.sinks.2) else wr (wr (c.bowls * k.sinks.2) + k.sinks.2))
end Go.Proofs.YtkpkebpofpcmaaaGreatDoor

namespace Go.Proofs.YtkpkebpofpcmaaaGreatDoor
open Go Go.Eng Go.RowKit Go.Proofs
set_option maxHeartbeats 2000000
set_option maxRecDepth 10000
attribute [local irreducible] TL TC TQ

structure CgAt (w : World) (ao : Option Addr) (l : List Cg) : Prop where
  s : Sl w 3 encCg ao l
  t : ∀ c ∈ l, Sl w 5 encTg c.ao c.told
def okCg (k : Kp) (i : Nat) (c : Cg) : Prop := toldOk k c.told = true ∧ c.told.length ≤ 10 ∧ In c.bowls 0 200 ∧ (i = 0 → c.bowls ≤ 0 ∧ c.full = true)
def vvW (k : Kp) (c : Cg) : Sp := comW (ofW (-10000000, 10000000)) (toldM k c.told)
def okCgs (k : Kp) (l : List Cg) : Prop := ∀ (i : Nat) c, l[i]? = some c → okCg k i c
end Go.Proofs.YtkpkebpofpcmaaaGreatDoor

namespace Go.Proofs.YtkpkebpofpcmaaaGreatDoor
open Go Go.Eng Go.RowKit Go.Proofs
set_option maxHeartbeats 4000000
set_option maxRecDepth 10000
instance : EqG Tryz.prog 106 := ⟨by kernel_rfl⟩
attribute [local irreducible] TL TC TQ

def cg0 : Cg := ⟨[], none, 0, 0, false⟩
def nxW (k : Ck) (c : Cg) (t now : Sp) : Sp := comW t [(wr (now.1 + (stepW k c).1), wr (now.2 + (stepW k c).2))]
def momW (k : Ck) (l : List Cg) (T : List Sp) : Nat → Sp
  | 0 => T.getD 0 (0, 0)
  | i + 1 => nxW k (l.getD (i + 1) cg0) (T.getD (i + 1) (0, 0)) (momW k l T i)
end Go.Proofs.YtkpkebpofpcmaaaGreatDoor

namespace Go.Proofs.YtkpkebpofpcmaaaGreatDoor
open Go Go.Eng Go.RowKit Go.Proofs
set_option maxHeartbeats 4000000
set_option maxRecDepth 10000
attribute [local irreducible] TL TC TQ

def mosW (k : Ck) (l : List Cg) (T : List Sp) (j : Nat) : List Sp := (List.range j).map (momW k l T)
/-- Backward: what a moment can be told from the next one. -/
def bkW (k : Ck) (l : List Cg) : Nat → List Sp → List Sp
  | 0, A => A
  | i + 1, A => bkW k l i (A.set i (comW (A.getD i (0, 0)) [(wr ((A.getD (i + 1) (0, 0)).1 - (stepW k (l.getD (i + 1) cg0)).2), wr ((A.getD (i + 1) (0, 0)).2 - (stepW k (l.getD (i + 1) cg0)).1))]))
/-- What the moments of changes are known to be. -/
def nightOk (k : Ck) (day : Int) (l : List Cg) : Prop := openE k day = 0 ∧ l.length ≤ 20 ∧ okCgs (k, day) l ∧ ∀ i, i < l.length → momW k l (l.map (vvW (k, day))) i ≠ (1, 0)
/-- The moments, where they are kept, and an error. -/
structure NightR (k : Ck) (day : Int) (l : List Cg) (m : List Sp) (e : Int) : Prop where
  len : m.length ≤ 20
  ok : nightOk k day l → e = 0
  all : e = 0 → m.length = l.length ∧ ∀ i, i + 1 = l.length → m[i]? = some (minW (momW k l (l.map (vvW (k, day))) i))
  mom : e = 0 → m = (bkW k l (l.length - 1) (mosW k l (l.map (vvW (k, day))) l.length)).map minW
end Go.Proofs.YtkpkebpofpcmaaaGreatDoor
