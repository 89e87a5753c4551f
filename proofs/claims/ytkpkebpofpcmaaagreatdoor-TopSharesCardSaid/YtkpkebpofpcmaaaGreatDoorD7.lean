/- Walks of the package deed: what asks of pieces; need. -/
import Derived.Test.YtkpkebpofpcmaaaGreatDoorD4
import Derived.Test.YtkpkebpofpcmaaaGreatDoorEngH
namespace Go.Proofs.YtkpkebpofpcmaaaGreatDoor
open Go Go.Eng Go.RowKit Go.Proofs
set_option maxHeartbeats 4000000
set_option maxRecDepth 10000
attribute [local irreducible] TL TC TQ

def insideB (m : Int) (p : Pc) : Bool := decide (p.turn.1 < m ∧ m < p.turn.2)
theorem c214 (p : Pc) (m : Int) (b : Nat) (w : World) (hb : Sl w 1 encI (some ⟨b, 0, none⟩) [m]) : Calls Tryz.prog 214 #[.agg (encPc p).toArray, .pointer (some ⟨b, 0, none⟩)] w (RetV w (.bool (insideB m p))) := by
  unfold insideB
  refine enter (args := [.agg (encPc p).toArray, .pointer (some ⟨b, 0, none⟩)]) Tryz.func214 rfl Tryz.ntmps214 rfl (SH.refl _) ?_
  repeat' (first | refine rn ?_ | (refine zb ?_; intro _ _) | (refine za ?_; intro _ _) | (refine zs ?_; intro _ _))
  refine TL_load_el1 (i := 0) (o := 0) rfl rfl (fun w h => h.sl hb) rfl rfl ?_
  repeat' (first | refine rn ?_ | (refine zb ?_; intro _ _) | (refine za ?_; intro _ _) | (refine zs ?_; intro _ _))
  refine TL_gsplit_dec rfl rfl (fun g1 => ?_) (fun g1 => ?_)
  · refine TL_guard_yes rfl rfl rfl ?_
    refine TL_load_el1 (i := 0) (o := 0) rfl rfl (fun w h => h.sl hb) rfl rfl ?_
    repeat' (first | refine rn ?_ | (refine zb ?_; intro _ _) | (refine za ?_; intro _ _) | (refine zs ?_; intro _ _))
    refine TQ_ret1 Tryz.results214 (RV.tmp rfl) (fun w' hs => ⟨?_, hs.below⟩)
    have : m < p.turn.2 ↔ (p.turn.1 < m ∧ m < p.turn.2) := ⟨fun h => ⟨g1, h⟩, fun h => h.2⟩
    rw [decide_eq_decide.2 this]
  · repeat' (first | refine rn ?_ | (refine zb ?_; intro _ _) | (refine za ?_; intro _ _) | (refine zs ?_; intro _ _))
    exact TQ_ret1 Tryz.results214 (RV.tmp rfl) (fun w' hs => RetV.no (fun h => g1 h.1) hs.below)
def hasB (m : Int) (p : Pc) : Bool := decide (p.turn.1 ≤ m ∧ m < p.turn.2)
theorem c42 (p : Pc) (m : Int) (b : Nat) (w : World) (hb : Sl w 1 encI (some ⟨b, 0, none⟩) [m]) : Calls Tryz.prog 42 #[.agg (encPc p).toArray, .pointer (some ⟨b, 0, none⟩)] w (RetV w (.bool (hasB m p))) := by
  unfold hasB
  refine enter (args := [.agg (encPc p).toArray, .pointer (some ⟨b, 0, none⟩)]) Tryz.func42 rfl Tryz.ntmps42 rfl (SH.refl _) ?_
  repeat' (first | refine rn ?_ | (refine zb ?_; intro _ _) | (refine za ?_; intro _ _) | (refine zs ?_; intro _ _))
  refine TL_load_el1 (i := 0) (o := 0) rfl rfl (fun w h => h.sl hb) rfl rfl ?_
  repeat' (first | refine rn ?_ | (refine zb ?_; intro _ _) | (refine za ?_; intro _ _) | (refine zs ?_; intro _ _))
  refine TL_gsplit_dec rfl rfl (fun g1 => ?_) (fun g1 => ?_)
  · refine TL_guard_yes rfl rfl rfl ?_
    refine TL_load_el1 (i := 0) (o := 0) rfl rfl (fun w h => h.sl hb) rfl rfl ?_
    repeat' (first | refine rn ?_ | (refine zb ?_; intro _ _) | (refine za ?_; intro _ _) | (refine zs ?_; intro _ _))
    refine TQ_ret1 Tryz.results42 (RV.tmp rfl) (fun w' hs => ⟨?_, hs.below⟩)
    have : m < p.turn.2 ↔ (p.turn.1 ≤ m ∧ m < p.turn.2) := ⟨fun h => ⟨g1, h⟩, fun h => h.2⟩
    rw [decide_eq_decide.2 this]
  · repeat' (first | refine rn ?_ | (refine zb ?_; intro _ _) | (refine za ?_; intro _ _) | (refine zs ?_; intro _ _))
    exact TQ_ret1 Tryz.results42 (RV.tmp rfl) (fun w' hs => RetV.no (fun h => g1 h.1) hs.below)
theorem c226 (p : Pc) (t : Sp) (b : Nat) (w : World) (hb : Sl w 2 encSp (some ⟨b, 0, none⟩) [t]) : Calls Tryz.prog 226 #[.agg (encPc p).toArray, .pointer (some ⟨b, 0, none⟩)] w (RetV w (.bool (decide (p.turn.1 = t.1)))) := by
  refine enter (args := [.agg (encPc p).toArray, .pointer (some ⟨b, 0, none⟩)]) Tryz.func226 rfl Tryz.ntmps226 rfl (SH.refl _) ?_
  repeat' (first | refine rn ?_ | (refine zb ?_; intro _ _) | (refine za ?_; intro _ _) | (refine zs ?_; intro _ _))
  refine TL_load_el1 (i := 0) (o := 0) rfl rfl (fun w h => h.sl hb) rfl rfl ?_
  repeat' (first | refine rn ?_ | (refine zb ?_; intro _ _) | (refine za ?_; intro _ _) | (refine zs ?_; intro _ _))
  exact TQ_ret1 Tryz.results226 (RV.tmp rfl) (fun w' hs => ⟨rfl, hs.below⟩)
theorem c227 (p : Pc) (t : Sp) (b : Nat) (w : World) (hb : Sl w 2 encSp (some ⟨b, 0, none⟩) [t]) : Calls Tryz.prog 227 #[.agg (encPc p).toArray, .pointer (some ⟨b, 0, none⟩)] w (RetV w (.bool (decide (p.turn.2 = t.2)))) := by
  refine enter (args := [.agg (encPc p).toArray, .pointer (some ⟨b, 0, none⟩)]) Tryz.func227 rfl Tryz.ntmps227 rfl (SH.refl _) ?_
  repeat' (first | refine rn ?_ | (refine zb ?_; intro _ _) | (refine za ?_; intro _ _) | (refine zs ?_; intro _ _))
  refine TL_load_el1 (i := 0) (o := 1) rfl rfl (fun w h => h.sl hb) rfl rfl ?_
  repeat' (first | refine rn ?_ | (refine zb ?_; intro _ _) | (refine za ?_; intro _ _) | (refine zs ?_; intro _ _))
  exact TQ_ret1 Tryz.results227 (RV.tmp rfl) (fun w' hs => ⟨rfl, hs.below⟩)
theorem c217 (p : Pc) (x : Dd) (b : Nat) (w : World) (hb : Sl w 9 encDd (some ⟨b, 0, none⟩) [x]) : Calls Tryz.prog 217 #[.agg (encPc p).toArray, .pointer (some ⟨b, 0, none⟩)] w (RetV w (.bool (decide (p.owner ≠ x.fr)))) := by
  refine enter (args := [.agg (encPc p).toArray, .pointer (some ⟨b, 0, none⟩)]) Tryz.func217 rfl Tryz.ntmps217 rfl (SH.refl _) ?_
  repeat' (first | refine rn ?_ | (refine zb ?_; intro _ _) | (refine za ?_; intro _ _) | (refine zs ?_; intro _ _))
  refine TL_load_el1 (i := 0) (o := 3) rfl rfl (fun w h => h.sl hb) rfl rfl ?_
  repeat' (first | refine rn ?_ | (refine zb ?_; intro _ _) | (refine za ?_; intro _ _) | (refine zs ?_; intro _ _))
  exact TQ_ret1 Tryz.results217 (RV.tmp rfl) (fun w' hs => ⟨rfl, hs.below⟩)
theorem c192 (p : Pc) (x : Dd) (b : Nat) (w : World) (hb : Sl w 9 encDd (some ⟨b, 0, none⟩) [x]) : Calls Tryz.prog 192 #[.agg (encPc p).toArray, .pointer (some ⟨b, 0, none⟩)] w (RetV w (.bool (decide (p.owner = x.fr)))) := by
  refine enter (args := [.agg (encPc p).toArray, .pointer (some ⟨b, 0, none⟩)]) Tryz.func192 rfl Tryz.ntmps192 rfl (SH.refl _) ?_
  repeat' (first | refine rn ?_ | (refine zb ?_; intro _ _) | (refine za ?_; intro _ _) | (refine zs ?_; intro _ _))
  refine TL_load_el1 (i := 0) (o := 3) rfl rfl (fun w h => h.sl hb) rfl rfl ?_
  repeat' (first | refine rn ?_ | (refine zb ?_; intro _ _) | (refine za ?_; intro _ _) | (refine zs ?_; intro _ _))
  exact TQ_ret1 Tryz.results192 (RV.tmp rfl) (fun w' hs => ⟨rfl, hs.below⟩)
def busyB (p : Pc) (day : Int) : Bool := decide (p.let_ ≠ 0 ∧ day < p.until_)
theorem c89 (p : Pc) (day : Int) (w : World) : Calls Tryz.prog 89 #[.agg (encPc p).toArray, .int .i64 day] w (RetV w (.bool (busyB p day))) := by
  unfold busyB
  refine enter (args := [.agg (encPc p).toArray, .int .i64 day]) Tryz.func89 rfl Tryz.ntmps89 rfl (SH.refl _) ?_
  repeat' (first | refine rn ?_ | (refine zb ?_; intro _ _) | (refine za ?_; intro _ _) | (refine zs ?_; intro _ _))
  refine TL_gsplit_dec rfl rfl (fun g1 => ?_) (fun g1 => ?_)
  · repeat' (first | refine rn ?_ | (refine zb ?_; intro _ _) | (refine za ?_; intro _ _) | (refine zs ?_; intro _ _))
    refine TQ_ret1 Tryz.results89 (RV.tmp rfl) (fun w' hs => ⟨?_, hs.below⟩)
    have : day < p.until_ ↔ (p.let_ ≠ 0 ∧ day < p.until_) := ⟨fun h => ⟨g1, h⟩, fun h => h.2⟩
    rw [decide_eq_decide.2 this]
  · repeat' (first | refine rn ?_ | (refine zb ?_; intro _ _) | (refine za ?_; intro _ _) | (refine zs ?_; intro _ _))
    exact TQ_ret1 Tryz.results89 (RV.tmp rfl) (fun w' hs => RetV.no (fun h => g1 h.1) hs.below)
def userP (p : Pc) (day : Int) : Int := if busyB p day then p.let_ else p.owner
theorem c43 (p : Pc) (day : Int) (w : World) : Calls Tryz.prog 43 #[.agg (encPc p).toArray, .int .i64 day] w (RetV w (.int .i64 (userP p day))) := by
  unfold userP
  refine enter (args := [.agg (encPc p).toArray, .int .i64 day]) Tryz.func43 rfl Tryz.ntmps43 rfl (SH.refl _) ?_
  repeat' (first | refine rn ?_ | (refine zb ?_; intro _ _) | (refine za ?_; intro _ _) | (refine zs ?_; intro _ _))
  refine TL_callV rfl rfl rfl (fun w h => c89 p day w) ?_
  repeat' (first | refine rn ?_ | (refine zb ?_; intro _ _) | (refine za ?_; intro _ _) | (refine zs ?_; intro _ _))
  refine TC_cond rfl (fun g1 => ?_) (fun g1 => ?_)
  · rw [if_pos g1]
    repeat' (first | refine rn ?_ | (refine zb ?_; intro _ _) | (refine za ?_; intro _ _) | (refine zs ?_; intro _ _))
    exact TQ_ret1 Tryz.results43 (RV.tmp rfl) (fun w' hs => ⟨rfl, hs.below⟩)
  rw [if_neg (by rw [g1]; simp)]
  repeat' (first | refine rn ?_ | (refine zb ?_; intro _ _) | (refine za ?_; intro _ _) | (refine zs ?_; intro _ _))
  exact TQ_ret1 Tryz.results43 (RV.tmp rfl) (fun w' hs => ⟨rfl, hs.below⟩)
theorem c64 (p : Pc) (w : World) : Calls Tryz.prog 64 #[.agg (encPc p).toArray] w (RetV w (.int .i64 p.owner)) := by
  refine enter (args := [.agg (encPc p).toArray]) Tryz.func64 rfl Tryz.ntmps64 rfl (SH.refl _) ?_
  repeat' (first | refine rn ?_ | (refine zb ?_; intro _ _) | (refine za ?_; intro _ _) | (refine zs ?_; intro _ _))
  exact TQ_ret1 Tryz.results64 (RV.tmp rfl) (fun w' hs => ⟨rfl, hs.below⟩)
theorem c65 (p : Pc) (day : Int) (b : Nat) (w : World) (hb : Sl w 1 encI (some ⟨b, 0, none⟩) [day]) : Calls Tryz.prog 65 #[.agg (encPc p).toArray, .pointer (some ⟨b, 0, none⟩)] w (RetV w (.int .i64 (userP p day))) := by
  refine enter (args := [.agg (encPc p).toArray, .pointer (some ⟨b, 0, none⟩)]) Tryz.func65 rfl Tryz.ntmps65 rfl (SH.refl _) ?_
  repeat' (first | refine rn ?_ | (refine zb ?_; intro _ _) | (refine za ?_; intro _ _) | (refine zs ?_; intro _ _))
  refine TL_load_el1 (i := 0) (o := 0) rfl rfl (fun w h => h.sl hb) rfl rfl ?_
  refine TL_callV rfl rfl rfl (fun w h => c43 p day w) ?_
  repeat' (first | refine rn ?_ | (refine zb ?_; intro _ _) | (refine za ?_; intro _ _) | (refine zs ?_; intro _ _))
  exact TQ_ret1 Tryz.results65 (RV.tmp rfl) (fun w' hs => ⟨rfl, hs.below⟩)
theorem c196 (p : Pc) (x : Dd) (b : Nat) (w : World) (hb : Sl w 9 encDd (some ⟨b, 0, none⟩) [x]) : Calls Tryz.prog 196 #[.agg (encPc p).toArray, .pointer (some ⟨b, 0, none⟩)] w (RetV w (.bool (busyB p x.day))) := by
  refine enter (args := [.agg (encPc p).toArray, .pointer (some ⟨b, 0, none⟩)]) Tryz.func196 rfl Tryz.ntmps196 rfl (SH.refl _) ?_
  repeat' (first | refine rn ?_ | (refine zb ?_; intro _ _) | (refine za ?_; intro _ _) | (refine zs ?_; intro _ _))
  refine TL_load_el1 (i := 0) (o := 1) rfl rfl (fun w h => h.sl hb) rfl rfl ?_
  refine TL_callV rfl rfl rfl (fun w h => c89 p x.day w) ?_
  repeat' (first | refine rn ?_ | (refine zb ?_; intro _ _) | (refine za ?_; intro _ _) | (refine zs ?_; intro _ _))
  exact TQ_ret1 Tryz.results196 (RV.tmp rfl) (fun w' hs => ⟨rfl, hs.below⟩)
def voidV (n : Int) : Value := .iface 217 (.int .u8 n)
def needE (so : Bool) (n : Int) : Except Value Value := if so then .ok (.tuple #[]) else .error (voidV n)
theorem c129 (so : Bool) (n : Int) (w : World) : Calls Tryz.prog 129 #[.bool so, .int .u8 n] w (EndV w (needE so n)) := by
  refine enter (args := [.bool so, .int .u8 n]) Tryz.func129 rfl Tryz.ntmps129 rfl (SH.refl _) ?_
  repeat' (first | refine rn ?_ | (refine zb ?_; intro _ _) | (refine za ?_; intro _ _) | (refine zs ?_; intro _ _))
  cases so with
  | true =>
    repeat' (first | refine rn ?_ | (refine zb ?_; intro _ _) | (refine za ?_; intro _ _) | (refine zs ?_; intro _ _))
    exact TQ_end0 Tryz.results129 (fun w' hs => ⟨rfl, hs.below⟩)
  | false =>
    repeat' (first | refine rn ?_ | (refine zb ?_; intro _ _) | (refine za ?_; intro _ _) | (refine zs ?_; intro _ _))
    refine TL_makeInterface_i rfl rfl ?_
    refine TL_panic rfl rfl ?_
    exact (TQ_panic (fun w' hs => ⟨rfl, hs.below⟩))
end Go.Proofs.YtkpkebpofpcmaaaGreatDoor
/- Walks of the package deed: slices.Insert of one piece. -/
namespace Go.Proofs.YtkpkebpofpcmaaaGreatDoor
open Go Go.Eng Go.RowKit Go.Proofs
set_option maxHeartbeats 4000000
set_option maxRecDepth 10000
attribute [local irreducible] TL TC TQ

def pc0 : Pc := ⟨(0, 0), 0, 0, 0⟩
theorem min_l {a b : Nat} (h : a ≤ b) : Nat.min a b = a := Nat.min_eq_left h
theorem min_r {a b : Nat} (h : b ≤ a) : Nat.min a b = b := Nat.min_eq_right h
theorem ins1 {α : Type} (l : List α) (i : Nat) (p u0 : α) (hi : i < l.length) : ((l.take i ++ List.replicate (l.length + 1 - i) u0).take i ++ [p] ++ (l.take i ++ List.replicate (l.length + 1 - i) u0).drop (i + [p].length)) = l.take i ++ p :: List.replicate (l.length - i) u0 := by
  have e : (l.take i).length = i := by simp; omega
  rw [List.take_left' e, List.drop_append, e]
  have : l.length + 1 - i = (l.length - i) + 1 := by omega
  rw [this, List.replicate_succ]
  simp [List.drop_eq_nil_of_le, e]
theorem ins2 {α : Type} (l : List α) (i : Nat) (p u0 : α) (hi : i < l.length) : ((l.take i ++ p :: List.replicate (l.length - i) u0).take (i + 1) ++ l.drop i ++ (l.take i ++ p :: List.replicate (l.length - i) u0).drop (i + 1 + (l.drop i).length)) = l.take i ++ p :: l.drop i := by
  have e : (l.take i ++ [p]).length = i + 1 := by simp; omega
  have e2 : l.take i ++ p :: List.replicate (l.length - i) u0 = (l.take i ++ [p]) ++ List.replicate (l.length - i) u0 := by simp
  have h0 : (l.take i ++ [p] ++ List.replicate (l.length - i) u0).drop (i + 1 + (l.drop i).length) = [] := by
    apply List.drop_eq_nil_of_le
    rw [List.length_append, e, List.length_replicate, List.length_drop]; omega
  rw [e2, List.take_left' e, h0, List.append_nil, List.append_assoc]
  rfl
theorem ins3 {α : Type} (l : List α) (i : Nat) (hi : i < l.length) : (l.take (i + 1) ++ l.drop i ++ l.drop (i + 1 + (l.drop i).length)) = l.take (i + 1) ++ l.drop i := by
  rw [List.drop_eq_nil_of_le (i := i + 1 + (l.drop i).length) (by simp; omega)]; simp
theorem ins4 {α : Type} (l : List α) (i : Nat) (p : α) (hi : i < l.length) : ((l.take (i + 1) ++ l.drop i).take i ++ [p] ++ (l.take (i + 1) ++ l.drop i).drop (i + [p].length)) = l.take i ++ p :: l.drop i := by
  have e : (l.take (i + 1)).length = i + 1 := by simp; omega
  rw [List.take_append_of_le_length (by omega), List.take_take, show min i (i + 1) = i by omega, List.length_singleton, List.drop_left' e]
  simp
theorem mapAdd0 (b k : Nat) : Option.map (fun x : Addr => x.add k) (some ⟨b, 0, none⟩) = some ⟨b, k, none⟩ := by simp [add_plain']
noncomputable def F224 : Func := (Tryz.prog.funcs[224]?).getD default
theorem F224_at : Tryz.prog.funcs[224]? = some F224 := by kernel_rfl
theorem c215 {B : Nat} {w0 : World} {G : Hp} {ao : Option Addr} {cap : Nat} {ob : Hp} (l : List Pc) (i : Nat) (p : Pc) (vb n : Nat) (hnl : n = l.length) (mi : Int) (hmi : mi = (i : Int)) (hrow : Row 116 5 encPc ao cap ob l) (hi0 : 0 < i) (hi : i ≤ l.length) (hsm : l.length ≤ 100000) (w : World) (hs : SH B w0 w (ob ++ (vb, .cells (encPc p) 116) :: G)) :
    Calls Tryz.prog 215 #[.slice ao n cap, .int .i64 mi, .slice (some ⟨vb, 0, none⟩) 1 1] w (RetP B w0 (fun y : Option Addr × Nat × Hp => .slice y.1 (n + 1) y.2.1) (fun y => y.2.2 ++ (vb, .cells (encPc p) 116) :: G) (fun y => Row 116 5 encPc y.1 y.2.1 y.2.2 (l.take i ++ p :: l.drop i))) := by
  subst hnl hmi
  have hne : l ≠ [] := fun e => by subst e; simp at hi; omega
  obtain ⟨b0, more, rfl, rfl, hlc, hcm, hml⟩ : ∃ b more, ao = some ⟨b, 0, none⟩ ∧ ob = [(b, .cells (l.flatMap encPc ++ more) 116)] ∧ l.length ≤ cap ∧ cap ≤ maxLen ∧ (l.flatMap encPc ++ more).length = cap * 5 := by
    rcases hrow.2 with ⟨_, _, _, h⟩ | h
    · exact absurd h hne
    · exact h
  have hbv : vb ≠ b0 := by
    have := hs.nodup
    simp at this
    exact fun e => this.1.1 e.symm
  have hcm' : cap ≤ 9223372036854775807 := by simpa [maxLen] using hcm
  have h1p : ∀ u ∈ [p], (encPc u).length = 5 ∧ oneCells (encPc u) = true := fun u _ => ⟨rfl, rfl⟩
  refine enter (args := [.slice (some ⟨b0, 0, none⟩) l.length cap, .int .i64 i, .slice (some ⟨vb, 0, none⟩) 1 1]) Tryz.func215 rfl Tryz.ntmps215 rfl hs ?_
  repeat' (first | refine rn ?_ | (refine zb ?_; intro _ _) | (refine za ?_; intro _ _) | (refine zs ?_; intro _ _))
  refine TL_sliceFrom i rfl rfl rfl rfl hi ?_
  repeat' (first | refine rn ?_ | (refine zb ?_; intro _ _) | (refine za ?_; intro _ _) | (refine zs ?_; intro _ _))
  refine TC_cond_dec rfl (fun g1 => ?_) (fun g1 => ?_)
  · have e : i = l.length := by omega
    repeat' (first | refine rn ?_ | (refine zb ?_; intro _ _) | (refine za ?_; intro _ _) | (refine zs ?_; intro _ _))
    refine TL_append (l2 := [p]) (enc := encPc) rfl (by rfl) rfl rfl rfl rfl rfl hrow (List.Perm.refl _) (fun w h => Sl.of_blk h mm (fun _ _ => rfl) ⟨[], by rfl⟩) (fun u _ => rfl) ?_ ?_ ?_
    · simp; omega
    · simp [maxLen]; omega
    intro ao' cap' ob' hr'
    repeat' (first | refine rn ?_ | (refine zb ?_; intro _ _) | (refine za ?_; intro _ _) | (refine zs ?_; intro _ _))
    rw [List.length_append]
    refine TQ_ret1 Tryz.results215 (RV.tmp rfl) (fun w' hs => ⟨(ao', cap', ob'), ?_, rfl, hs⟩)
    rw [e, List.take_length, List.drop_length]; exact hr'
  have hlt : i < l.length := by omega
  have hti : (l.take i).length = i := by rw [List.length_take]; omega
  repeat' (first | refine rn ?_ | (refine zb ?_; intro _ _) | (refine za ?_; intro _ _) | (refine zs ?_; intro _ _))
  refine TL_cap rfl rfl ?_
  repeat' (first | refine rn ?_ | (refine zb ?_; intro _ _) | (refine za ?_; intro _ _) | (refine zs ?_; intro _ _))
  refine TC_cond_dec rfl (fun g2 => ?_) (fun g2 => ?_)
  · repeat' (first | refine rn ?_ | (refine zb ?_; intro _ _) | (refine za ?_; intro _ _) | (refine zs ?_; intro _ _))
    refine TL_sliceTo i rfl rfl rfl rfl (by omega) ?_
    rw [if_neg (by omega)]
    repeat' (first | refine rn ?_ | (refine zb ?_; intro _ _) | (refine za ?_; intro _ _) | (refine zs ?_; intro _ _))
    rw [show ((l.length : Int) + ((1 : Nat) : Int) - i) = ((l.length + 1 - i : Nat) : Int) by omega]
    refine TL_appendZ (l := l.take i) (u0 := pc0) (enc := encPc) rfl (by rfl) rfl (by rw [List.length_take]; omega) rfl (fun w h => (Sl.of_blk (enc := encPc) (l := l) (k := 5) h (mm (h := List.Mem.head _)) (fun _ _ => rfl) ⟨more, rfl⟩).take i) (fun e => by rw [e] at hti; simp at hti; omega) rfl (by decide) (fun u _ => rfl) rfl ?_ ?_ ?_ ?_ ?_
    · rw [List.length_take]; omega
    · rw [List.length_take]; omega
    · rw [List.length_take]; omega
    · rw [List.length_take]; simp [maxLen]; omega
    intro b2 cap' ob' hr'
    have hlen' : (l.take i).length + (l.length + 1 - i) = l.length + 1 := by rw [List.length_take]; omega
    rw [hlen']
    have hle' := hr'.le
    rw [List.length_append, List.length_replicate, hlen'] at hle'
    have hne' : l.take i ++ List.replicate (l.length + 1 - i) pc0 ≠ [] := by simp; omega
    obtain ⟨b3, cs, cs', e1, rfl, hp1, hr1⟩ := hr'.over (j := i) (us := [p]) (by rw [List.length_append, List.length_replicate, hlen']; omega) (by simp; omega) h1p hne'
    cases e1
    rw [ins1 l i p pc0 hlt] at hr1
    repeat' (first | refine rn ?_ | (refine zb ?_; intro _ _) | (refine za ?_; intro _ _) | (refine zs ?_; intro _ _))
    refine TL_sliceFrom i rfl rfl rfl rfl (by omega) ?_
    rw [if_neg (by omega), mapAdd0]
    repeat' (first | refine rn ?_ | (refine zb ?_; intro _ _) | (refine za ?_; intro _ _) | (refine zs ?_; intro _ _))
    refine TL_copy (l2 := [p]) (enc := encPc) rfl rfl rfl (show Nat.min 1 (l.length + 1 - i) = 1 from Nat.min_eq_left (by omega)) (fun w h => Sl.of_blk h mm (fun _ _ => rfl) ⟨[], by rfl⟩) (fun u _ => rfl) Upd.head hp1 ?_
    obtain ⟨b4, cs2, cs2', e1, e2, hp2, hr2⟩ := hr1.over (j := i + 1) (us := l.drop i) (by rw [List.length_append, hti]; simp) (by rw [List.length_drop]; omega) (fun u _ => ⟨rfl, rfl⟩) (by simp)
    cases e1
    cases e2
    rw [ins2 l i p pc0 hlt] at hr2
    repeat' (first | refine rn ?_ | (refine zb ?_; intro _ _) | (refine za ?_; intro _ _) | (refine zs ?_; intro _ _))
    apply TC_draw 8; kernel_rfl; exact Tryz.mixed
    · iterate 4 (refine' pv ?_; rotate_left)
      (refine' PG.val rfl rfl (by intro _X; refine TL_sliceFrom (i + 1) rfl rfl rfl (by omega) (by omega) ?_; exact qe) ?_; rotate_left)
      iterate 2 (refine' pv ?_; rotate_left)
      (refine' PG.val rfl rfl (by intro _X; refine TL_sliceFrom i rfl rfl rfl rfl (by omega) ?_; exact qe) ?_; rotate_left)
      exact PG.nil
    change TL _ _ _ _ _ _ _ _ _ _ _
    rw [if_neg (by omega), if_neg (by omega), mapAdd0 b2, mapAdd0 b0 (i * 5)]
    refine TL_copy (l2 := l.drop i) (enc := encPc) rfl rfl rfl (by rw [min_l (by omega), List.length_drop]) (fun w h => ?_) (fun u _ => rfl) Upd.head hp2 ?_
    · have h3 := (Sl.of_blk (enc := encPc) (k := 5) (l := l) h (mm (h := List.Mem.tail _ (List.Mem.head _))) (fun _ _ => rfl) ⟨more, rfl⟩).drop i cap hlc
      rw [if_neg (by omega), mapAdd0] at h3
      exact h3
    repeat' (first | refine rn ?_ | (refine zb ?_; intro _ _) | (refine za ?_; intro _ _) | (refine zs ?_; intro _ _))
    refine TQ_ret1 Tryz.results215 (RV.tmp rfl) (fun w' hs => ⟨(some ⟨b2, 0, none⟩, cap', [(b2, .cells cs2' 116)]), hr2, rfl, hs.sub ?_⟩)
    exact List.Sublist.cons_cons _ (List.sublist_cons_self _ _)
  · repeat' (first | refine rn ?_ | (refine zb ?_; intro _ _) | (refine za ?_; intro _ _) | (refine zs ?_; intro _ _))
    refine TL_sliceTo (l.length + 1) rfl rfl rfl rfl (by omega) ?_
    rw [if_neg (by omega), mapAdd0]
    repeat' (first | refine rn ?_ | (refine zb ?_; intro _ _) | (refine za ?_; intro _ _) | (refine zs ?_; intro _ _))
    refine TL_sliceFrom (i + 1) rfl rfl rfl (by omega) (by omega) ?_
    rw [if_neg (by omega), mapAdd0]
    refine TL_overlaps (f := 224) (fn := F224) (tR := 4) rfl F224_at rfl rfl rfl rfl rfl rfl hbv (List.Mem.tail _ (List.Mem.head _)) (List.Mem.head _) ?_ ?_
    · rw [hml]; omega
    repeat' (first | refine rn ?_ | (refine zb ?_; intro _ _) | (refine za ?_; intro _ _) | (refine zs ?_; intro _ _))
    obtain ⟨b3, cs, cs', e1, e2, hp1, hr1⟩ := hrow.over (j := i + 1) (us := l.drop i) (by omega) (by simp; omega) (fun u _ => ⟨rfl, rfl⟩) hne
    cases e1
    cases e2
    rw [ins3 l i hlt] at hr1
    apply TC_draw 8; kernel_rfl; exact Tryz.mixed
    · iterate 4 (refine' pv ?_; rotate_left)
      (refine' PG.val rfl rfl (by intro _X; refine TL_sliceFrom (i + 1) rfl rfl rfl (by omega) (by omega) ?_; exact qe) ?_; rotate_left)
      iterate 2 (refine' pv ?_; rotate_left)
      (refine' PG.val rfl rfl (by intro _X; refine TL_sliceFrom i rfl rfl rfl rfl (by omega) ?_; exact qe) ?_; rotate_left)
      exact PG.nil
    change TL _ _ _ _ _ _ _ _ _ _ _
    rw [if_neg (by omega), if_neg (by omega), mapAdd0, mapAdd0]
    refine TL_copy (l2 := l.drop i) (enc := encPc) rfl rfl rfl (by rw [min_r (by omega), List.length_drop]; omega) (fun w h => ?_) (fun u _ => rfl) Upd.head hp1 ?_
    · have h3 := (Sl.of_blk (enc := encPc) (k := 5) (l := l) h (mm (h := List.Mem.head _)) (fun _ _ => rfl) ⟨more, rfl⟩).drop i cap hlc
      rw [if_neg (by omega), mapAdd0] at h3
      exact h3
    repeat' (first | refine rn ?_ | (refine zb ?_; intro _ _) | (refine za ?_; intro _ _) | (refine zs ?_; intro _ _))
    refine TL_sliceFrom i rfl rfl rfl rfl (by omega) ?_
    rw [if_neg (by omega), mapAdd0]
    repeat' (first | refine rn ?_ | (refine zb ?_; intro _ _) | (refine za ?_; intro _ _) | (refine zs ?_; intro _ _))
    obtain ⟨b4, cs2, cs2', e1, e2, hp2, hr2⟩ := hr1.over (j := i) (us := [p]) (by rw [List.length_append, List.length_take]; omega) (by simp; omega) h1p (fun e => by have := congrArg List.length e; simp at this; omega)
    cases e1
    cases e2
    rw [ins4 l i p hlt] at hr2
    refine TL_copy (l2 := [p]) (enc := encPc) rfl rfl rfl (show Nat.min 1 (l.length + 1 - i) = 1 from Nat.min_eq_left (by omega)) (fun w h => Sl.of_blk h (mm (h := List.Mem.tail _ (List.Mem.head _))) (fun _ _ => rfl) ⟨[], by rfl⟩) (fun u _ => rfl) Upd.head hp2 ?_
    repeat' (first | refine rn ?_ | (refine zb ?_; intro _ _) | (refine za ?_; intro _ _) | (refine zs ?_; intro _ _))
    exact TQ_ret1 Tryz.results215 (RV.tmp rfl) (fun w' hs => ⟨(some ⟨b0, 0, none⟩, cap, [(b0, .cells cs2' 116)]), hr2, rfl, hs⟩)
end Go.Proofs.YtkpkebpofpcmaaaGreatDoor
/- Walks of the package deed: the book; cut. -/
namespace Go.Proofs.YtkpkebpofpcmaaaGreatDoor
open Go Go.Eng Go.RowKit Go.Proofs
set_option maxHeartbeats 4000000
set_option maxRecDepth 10000
attribute [local irreducible] TL TC TQ

/-- Where a book's pieces and its dead lie. -/
structure Lc where
  ao : Option Addr
  cap : Nat
  ob : Hp
  es : Array MapEntry
  clk : Nat
def deadF (dead : Int → Bool) : Int → Option Value := fun k => if dead k then some (.bool true) else none
structure BkOk (x : Lc) (pcs : List Pc) (dead : Int → Bool) : Prop where
  row : Row 116 5 encPc x.ao x.cap x.ob pcs
  map : MR .i64 x.es.toList (deadF dead)
def bkC (r : Ro) (bm : Nat) (x : Lc) (n : Nat) : List Value := [.int .i64 r.days, .slice r.ao r.holds.length r.cap, .slice x.ao n x.cap, .map (some bm)]
abbrev bkH (r : Ro) (b bm : Nat) (x : Lc) (n : Nat) (G : Hp) : Hp := (b, .cells (bkC r bm x n) 119) :: (bm, .obj (.map x.es x.clk)) :: (x.ob ++ G)
def cutP (m : Int) : List Pc → List Pc
  | [] => []
  | p :: l => if insideB m p then { p with turn := (p.turn.1, m) } :: { p with turn := (m, p.turn.2) } :: l else p :: cutP m l
theorem cutP_none {m : Int} : ∀ {l : List Pc}, (∀ p ∈ l, insideB m p = false) → cutP m l = l
  | [], _ => rfl
  | p :: l, h => by
    rw [cutP, h p List.mem_cons_self, cutP_none (fun q hq => h q (List.mem_cons_of_mem _ hq))]; rfl
theorem cutP_at {m : Int} : ∀ {l : List Pc} {i : Nat} {p : Pc}, l[i]? = some p → insideB m p = true → (∀ j q, j < i → l[j]? = some q → insideB m q = false) →
    cutP m l = (l.set i { p with turn := (p.turn.1, m) }).take (i + 1) ++ { p with turn := (m, p.turn.2) } :: (l.set i { p with turn := (p.turn.1, m) }).drop (i + 1)
  | [], i, p, h, _, _ => by simp at h
  | q :: l, 0, p, h, hp, _ => by
    simp at h; subst h
    rw [cutP, if_pos hp]; simp
  | q :: l, i + 1, p, h, hp, hn => by
    rw [cutP, if_neg (by rw [hn 0 q (by omega) (by simp)]; simp), cutP_at (l := l) (i := i) (p := p) (by simpa using h) hp (fun j q' hj hq' => hn (j + 1) q' (by omega) (by simpa using hq'))]
    simp
theorem mem_bk {x : Nat × Blk} {a b : Nat × Blk} {ob G : Hp} (h : x ∈ ob) : x ∈ a :: b :: (ob ++ G) := List.mem_cons_of_mem _ (List.mem_cons_of_mem _ (List.mem_append_left _ h))
theorem mem_bk' {x : Nat × Blk} {a b : Nat × Blk} {ob G : Hp} (h : x ∈ G) : x ∈ a :: b :: (ob ++ G) := List.mem_cons_of_mem _ (List.mem_cons_of_mem _ (List.mem_append_right _ h))
theorem mem_bk0 {x : Nat × Blk} {a b : Nat × Blk} {ob G : Hp} (h : x ∈ ob) : x ∈ a :: b :: (ob ++ G) := List.mem_cons_of_mem _ (List.mem_cons_of_mem _ (List.mem_append_left _ h))
theorem pm_in1 {c a b : Nat × Blk} {ob R : Hp} : (a :: b :: (ob ++ c :: R)).Perm (c :: a :: b :: (ob ++ R)) := by
  refine (List.Perm.cons a (List.Perm.cons b List.perm_middle)).trans ?_
  refine (List.Perm.cons a (List.Perm.swap c b _)).trans (List.Perm.swap c a _)
theorem pm_ins {a : Nat × Blk} {X ob R : Hp} : (ob ++ a :: (X ++ R)).Perm ([a] ++ (X ++ (ob ++ R))) := by
  refine List.perm_middle.trans (List.Perm.cons a ?_)
  exact List.perm_append_comm_assoc ob X R
theorem pm_bk {a b : Nat × Blk} {ob R : Hp} : (a :: b :: (ob ++ R)).Perm (ob ++ (a :: b :: R)) := (List.Perm.cons a List.perm_middle.symm).trans List.perm_middle.symm
theorem c193 {B : Nat} {w0 : World} {G : Hp} (r : Ro) (b bm : Nat) (x : Lc) (pcs : List Pc) (dead : Int → Bool) (m : Int) (hok : BkOk x pcs dead) (hsm : pcs.length ≤ 90000) (w : World) (hs : SH B w0 w (bkH r b bm x pcs.length G)) :
    Calls Tryz.prog 193 #[.pointer (some ⟨b, 0, none⟩), .int .i64 m] w (RetP B w0 (fun _ : Lc => .tuple #[]) (fun y => bkH r b bm y (cutP m pcs).length G) (fun y => BkOk y (cutP m pcs) dead)) := by
  have hsm' : Small pcs.length := by unfold Small; omega
  refine enter (args := [.pointer (some ⟨b, 0, none⟩), .int .i64 m]) Tryz.func193 rfl Tryz.ntmps193 rfl hs ?_
  repeat' (first | refine rn ?_ | (refine zb ?_; intro _ _) | (refine za ?_; intro _ _) | (refine zs ?_; intro _ _) | (refine nk ?_))
  rename_i b3 _
  refine TL_callV rfl rfl rfl (fun w h => c41 (insideB m) 214 [.pointer (some ⟨b3, 0, none⟩)] pcs x.ao x.cap hsm' w (hok.row.sl h (fun p hp => List.mem_cons_of_mem _ (List.mem_cons_of_mem _ (List.mem_cons_of_mem _ (List.mem_append_left _ hp))))) (fun p _ w' hb => c214 p m b3 w' ((Sl.of_blk (enc := encI) (k := 1) (l := [m]) h (mm (h := List.Mem.head _)) (fun _ _ => rfl) ⟨[], rfl⟩).mono hb))) ?_
  repeat' (first | refine rn ?_ | (refine zb ?_; intro _ _) | (refine za ?_; intro _ _) | (refine zs ?_; intro _ _) | (refine nk ?_))
  refine TC_cond_dec rfl (fun g1 => ?_) (fun g1 => ?_)
  · repeat' (first | refine rn ?_ | (refine zb ?_; intro _ _) | (refine za ?_; intro _ _) | (refine zs ?_; intro _ _))
    have e : cutP m pcs = pcs := by
      rcases fidx_spec (insideB m) pcs with ⟨_, h⟩ | ⟨i, p, h, _⟩
      · exact cutP_none h
      · omega
    rw [e]
    exact TQ_ret0 Tryz.results193 (fun w' hs => ⟨x, hok, rfl, hs.sub (List.sublist_cons_self _ _)⟩)
  obtain ⟨i, p, hi, hp, hin, hno⟩ : ∃ (i : Nat) (p : Pc), fidx (insideB m) pcs = i ∧ pcs[i]? = some p ∧ insideB m p = true ∧ ∀ j q, j < i → pcs[j]? = some q → insideB m q = false := by
    rcases fidx_spec (insideB m) pcs with ⟨h, _⟩ | h
    · omega
    · exact h
  have hlt : i < pcs.length := (List.getElem?_eq_some_iff.1 hp).1
  have hne : pcs ≠ [] := fun e => by rw [e] at hp; simp at hp
  rw [hi]
  repeat' (first | refine rn ?_ | (refine zb ?_; intro _ _) | (refine za ?_; intro _ _) | (refine zs ?_; intro _ _) | (refine nk ?_))
  refine TL_index i rfl rfl rfl (fun w h => hok.row.sl h (fun p hp => List.mem_cons_of_mem _ (List.mem_cons_of_mem _ (List.mem_cons_of_mem _ (List.mem_append_left _ hp))))) rfl hlt (Nat.le_refl _) ?_
  refine TL_load_eln (u := p) rfl rfl (fun w h => hok.row.sl h (fun p hp => List.mem_cons_of_mem _ (List.mem_cons_of_mem _ (List.mem_cons_of_mem _ (List.mem_append_left _ hp))))) hp rfl ?_
  repeat' (first | refine rn ?_ | (refine zb ?_; intro _ _) | (refine za ?_; intro _ _) | (refine zs ?_; intro _ _) | (refine nk ?_))
  rename_i b5 _
  apply TC_draw 9; kernel_rfl; exact Tryz.mixed
  · (refine' pv ?_; rotate_left)
    (refine' PG.val rfl rfl (by intro _X; refine TL_nilCheck rfl rfl ?_; exact qe) ?_; rotate_left)
    iterate 4 (refine' pv ?_; rotate_left)
    (refine' PG.val rfl rfl (by intro _X; refine TL_index i rfl rfl rfl (fun w h => hok.row.sl h (fun p hp => by repeat (first | exact List.mem_append_left _ hp | apply List.mem_append_right | apply List.mem_cons_of_mem))) rfl hlt (Nat.le_refl _) ?_; exact qe) ?_; rotate_left)
    (refine' PG.val rfl rfl (by intro _X; refine TL_fieldAddr_el rfl rfl (fun w h => hok.row.sl h (fun p hp => by repeat (first | exact List.mem_append_left _ hp | apply List.mem_append_right | apply List.mem_cons_of_mem))) hne ?_; exact qe) ?_; rotate_left)
    (refine' PG.val rfl rfl (by intro _X; refine TL_fieldAddr_el rfl rfl (fun w h => hok.row.sl h (fun p hp => by repeat (first | exact List.mem_append_left _ hp | apply List.mem_append_right | apply List.mem_cons_of_mem))) hne ?_; exact qe) ?_; rotate_left)
    exact PG.nil
  change TL _ _ _ _ _ _ _ _ _ _ _
  refine TL_store_el (enc := encPc) (u' := { p with turn := (p.turn.1, m) }) (fun o => (b5, .cells [.int .i64 m, .int .i64 p.turn.2, .int .i64 p.owner, .int .i64 p.let_, .int .i64 p.until_] 116) :: (b3, .cells [.int .i64 m] 3) :: bkH r b bm { x with ob := o } pcs.length G) hok.row rfl rfl rfl rfl rfl rfl hp rfl rfl (fun _ _ _ => up) (fun ob' hr' => ?_)
  repeat' (first | refine rn ?_ | (refine zb ?_; intro _ _) | (refine za ?_; intro _ _) | (refine zs ?_; intro _ _) | (refine nk ?_))
  have hl' : (pcs.set i { p with turn := (p.turn.1, m) }).length = pcs.length := List.length_set
  have hcut := cutP_at hp hin hno
  have hrw : ∀ y : Option Addr × Nat × Hp, Row 116 5 encPc y.1 y.2.1 y.2.2 ((pcs.set i { p with turn := (p.turn.1, m) }).take (i + 1) ++ { p with turn := (m, p.turn.2) } :: (pcs.set i { p with turn := (p.turn.1, m) }).drop (i + 1)) → Row 116 5 encPc y.1 y.2.1 y.2.2 (cutP m pcs) := fun y h => hcut ▸ h
  have hcl : (cutP m pcs).length = pcs.length + 1 := by rw [hcut, List.length_append, List.length_cons, List.length_take, List.length_drop, hl']; omega
  apply TC_draw6 10 9 [] (ob') ((b5, .cells [.int .i64 m, .int .i64 p.turn.2, .int .i64 p.owner, .int .i64 p.let_, .int .i64 p.until_] 116) :: (b3, .cells [.int .i64 m] 3) :: (b, .cells (bkC r bm x pcs.length) 119) :: (bm, .obj (.map x.es x.clk)) :: G) (pm_cons (pm_cons (pm_cons (pm_cons pm_here)))); kernel_rfl; exact rfl; exact Tryz.mixed; exact rfl
  · iterate 2 (refine' pv6 ?_; rotate_left)
    (refine' PG6.val rfl rfl rfl (by intro _X; refine TL_nilCheck rfl rfl ?_; exact qe) ?_; rotate_left)
    iterate 5 (refine' pv6 ?_; rotate_left)
    (refine' PG6.rel ((fun v h => ∃ b, v = .slice (some ⟨b, 0, none⟩) 1 1 ∧ h = [(b, .cells (encPc { p with turn := (m, p.turn.2) }) 116)])) rfl rfl rfl (by intro _X; apply TL_buildSlice; exact rfl; exact rfl; exact rfl; exact rfl; exact rfl; intro b _; exact TL_nil (TQ_QR (h := [(b, _)]) rfl ⟨b, rfl, rfl⟩ (fun _ h => h))) ?_; rotate_left)
    (refine' PG6.big (fun v h => ∃ y : Option Addr × Nat × Hp, v = .slice y.1 (pcs.length + 1) y.2.1 ∧ h = y.2.2 ∧ Row 116 5 encPc y.1 y.2.1 y.2.2 (cutP m pcs)) rfl rfl rfl (by rintro _ _ ⟨vb, rfl, rfl⟩ _X; refine TL_call rfl rfl rfl (fun y : Option Addr × Nat × Hp => .slice y.1 (pcs.length + 1) y.2.1) (fun y => y.2.2 ++ ((vb, Blk.cells (encPc { p with turn := (m, p.turn.2) }) 116) :: (_X ++ ((b5, .cells [.int .i64 m, .int .i64 p.turn.2, .int .i64 p.owner, .int .i64 p.let_, .int .i64 p.until_] 116) :: (b3, .cells [.int .i64 m] 3) :: (b, .cells (bkC r bm x pcs.length) 119) :: (bm, .obj (.map x.es x.clk)) :: G)))) (fun y => Row 116 5 encPc y.1 y.2.1 y.2.2 ((pcs.set i { p with turn := (p.turn.1, m) }).take (i + 1) ++ { p with turn := (m, p.turn.2) } :: (pcs.set i { p with turn := (p.turn.1, m) }).drop (i + 1))) (fun w h => c215 (G := _X ++ ((b5, .cells [.int .i64 m, .int .i64 p.turn.2, .int .i64 p.owner, .int .i64 p.let_, .int .i64 p.until_] 116) :: (b3, .cells [.int .i64 m] 3) :: (b, .cells (bkC r bm x pcs.length) 119) :: (bm, .obj (.map x.es x.clk)) :: G)) (pcs.set i { p with turn := (p.turn.1, m) }) (i + 1) { p with turn := (m, p.turn.2) } vb pcs.length hl'.symm ((i : Int) + 1) (by omega) hr' (by omega) (by omega) (by omega) w (h.perm pm_ins)) (fun y hy => TL_nil (TQ_QR (h := y.2.2) rfl ⟨y, rfl, rfl, hrw y hy⟩ (fun _ h => h)))) ?_; rotate_left)
    exact PG6.nil
  rintro _ _ ⟨y, rfl, rfl, hy⟩ _ _ ⟨vb, rfl, rfl⟩
  change TL _ _ _ _ _ _ _ _ _ _ _
  repeat' (first | refine rn ?_ | (refine zb ?_; intro _ _) | (refine za ?_; intro _ _) | (refine zs ?_; intro _ _) | (refine nk ?_))
  rw [← hcl]
  refine TQ_end0 Tryz.results193 (fun w' hs => ⟨{ x with ao := y.1, cap := y.2.1, ob := y.2.2 }, ⟨hy, hok.map⟩, rfl, (hs.sub (H' := y.2.2 ++ (_ :: _ :: G)) ?_).perm pm_bk⟩)
  exact List.Sublist.append (List.sublist_append_left _ _) (List.Sublist.cons _ (List.Sublist.cons _ (List.Sublist.refl _)))
end Go.Proofs.YtkpkebpofpcmaaaGreatDoor
