/- Walks of the package hour: what tellings tell. -/
import Derived.Test.YtkpkebpofpcmaaaGreatDoorEngR
import Derived.Test.YtkpkebpofpcmaaaGreatDoorH2
namespace Go.Proofs.YtkpkebpofpcmaaaGreatDoor
open Go Go.Eng Go.RowKit Go.Proofs
set_option maxHeartbeats 2000000
set_option maxRecDepth 10000
attribute [local irreducible] TL TC TQ

def at0 (l : List Sp) (i : Int) : Sp := (l[i.toNat]?).getD (0, 0)
def at1 (l : List St) (i : Int) : St := (l[i.toNat]?).getD ((0, 0), (0, 0))
def marksW (k : Ck) (a b : Int) : Sp × Bool := if In a 0 (k.marks.length - 1) ∧ In b 0 (k.marks.length - 1) then ((wr (1000 * (at0 k.marks a).1), wr (1000 * (at0 k.marks b).2)), true) else ((1, 0), false)
theorem marksW_no {k : Ck} {a b : Int} (h : ¬ (In a 0 (k.marks.length - 1) ∧ In b 0 (k.marks.length - 1))) : marksW k a b = ((1, 0), false) := if_neg h
theorem marksW_ok {k : Ck} {a b : Int} (h : In a 0 (k.marks.length - 1) ∧ In b 0 (k.marks.length - 1)) : marksW k a b = ((wr (1000 * (at0 k.marks a).1), wr (1000 * (at0 k.marks b).2)), true) := if_pos h
theorem at0_get {l : List Sp} {a : Int} (h : In a 0 (l.length - 1)) : l[a.toNat]? = some (at0 l a) ∧ a = (a.toNat : Int) ∧ a.toNat < l.length := by
  unfold In at h
  have hlt : a.toNat < l.length := by omega
  refine ⟨?_, by omega, hlt⟩
  unfold at0
  rw [List.getElem?_eq_getElem hlt]; rfl
theorem at1_get {l : List St} {a : Int} (h : In a 0 (l.length - 1)) : l[a.toNat]? = some (at1 l a) ∧ a = (a.toNat : Int) ∧ a.toNat < l.length := by
  unfold In at h
  have hlt : a.toNat < l.length := by omega
  refine ⟨?_, by omega, hlt⟩
  unfold at1
  rw [List.getElem?_eq_getElem hlt]; rfl
def tV (x : Sp × Bool) : Value := .tuple #[.agg (encSp x.1).toArray, .bool x.2]
structure KpAt (w : World) (b1 : Nat) (k : Kp) : Prop where
  b : Sl w 7 encKp (some ⟨b1, 0, none⟩) [k]
  k : CkAt w k.1
theorem KpAt.mono {w w' : World} {b1 : Nat} {k : Kp} (h : KpAt w b1 k) (hb : Below w.heap.size w w') : KpAt w' b1 k := ⟨h.b.mono hb, h.k.mono hb⟩
theorem c180 (k : Kp) (a b : Int) (b1 : Nat) (w : World) (hk : KpAt w b1 k) (hv : Nv w) : Calls Tryz.prog 180 #[.int .i64 a, .int .i64 b, .pointer (some ⟨b1, 0, none⟩)] w (RetV w (tV (marksW k.1 a b))) := by
  have hml := hk.k.ml
  unfold Small at hml
  refine enter (args := [.int .i64 a, .int .i64 b, .pointer (some ⟨b1, 0, none⟩)]) Tryz.func180 rfl Tryz.ntmps180 rfl (SH.refl _) ?_
  repeat' (first | refine rn ?_ | (refine zb ?_; intro _ _) | (refine za ?_; intro _ _) | (refine zs ?_; intro _ _))
  refine TL_load_el1 (i := 0) (o := 0) rfl rfl (fun w h => h.sl hk.b) rfl rfl ?_
  repeat' (first | refine rn ?_ | (refine zb ?_; intro _ _) | (refine za ?_; intro _ _) | (refine zs ?_; intro _ _))
  rename_i b5 _ b6 _
  refine TL_callV rfl rfl rfl (fun w h => c67 0 _ [a, b] _ 2 (by simp [Small]) w (Sl.of_blk h mm (fun y _ => rfl) ⟨[], rfl⟩)) ?_
  repeat' (first | refine rn ?_ | (refine zb ?_; intro _ _) | (refine za ?_; intro _ _) | (refine zs ?_; intro _ _))
  refine TC_cond_dec rfl (fun g => ?_) (fun g => ?_)
  · repeat' (first | refine rn ?_ | (refine zb ?_; intro _ _) | (refine za ?_; intro _ _) | (refine zs ?_; intro _ _))
    refine TL_load_eln (i := 0) (o := 0) rfl rfl (fun w h => h.sl hv) rfl rfl ?_
    repeat' (first | refine rn ?_ | (refine zb ?_; intro _ _) | (refine za ?_; intro _ _) | (refine zs ?_; intro _ _))
    refine TQ_ret2 Tryz.results180 (RV.celln rfl mm (by rfl)) (RV.tmp rfl) (fun w' hs => ⟨?_, hs.below⟩)
    rw [marksW_no (by simpa using g)]; rfl
  · have g' : In a 0 (k.1.marks.length - 1) ∧ In b 0 (k.1.marks.length - 1) := by simpa using g
    obtain ⟨ha1, ha2, ha3⟩ := at0_get g'.1
    obtain ⟨hb1, hb2, hb3⟩ := at0_get g'.2
    have hne : k.1.marks ≠ [] := by intro h; rw [h] at ha3; simp at ha3
    rw [marksW_ok g']
    repeat' (first | refine rn ?_ | (refine zb ?_; intro _ _) | (refine za ?_; intro _ _) | (refine zs ?_; intro _ _))
    apply TC_draw 17; kernel_rfl; exact Tryz.mixed
    · iterate 2 (refine' pv ?_; rotate_left)
      (refine' PG.val rfl rfl (by intro _X; refine TL_load_el1 (i := 0) (o := 0) rfl rfl (fun w h => h.sl hk.b) rfl rfl ?_; exact qe) ?_; rotate_left)
      (refine' pv ?_; rotate_left)
      (refine' PG.val rfl rfl (by intro _X; refine TL_index a.toNat rfl rfl rfl (fun w h => h.sl hk.k.m) (ha2) ha3 (Nat.le_refl _) ?_; exact qe) ?_; rotate_left)
      (refine' PG.val rfl rfl (by intro _X; refine TL_fieldAddr_el rfl rfl (fun w h => h.sl hk.k.m) hne ?_; exact qe) ?_; rotate_left)
      (refine' PG.val rfl rfl (by intro _X; refine TL_load_el1 (u := _) rfl rfl (fun w h => h.sl hk.k.m) ha1 rfl ?_; exact qe) ?_; rotate_left)
      (refine' PG.val rfl rfl (by intro _X; refine wo ?_; exact qe) ?_; rotate_left)
      iterate 2 (refine' pv ?_; rotate_left)
      (refine' PG.val rfl rfl (by intro _X; refine TL_load_el1 (i := 0) (o := 0) rfl rfl (fun w h => h.sl hk.b) rfl rfl ?_; exact qe) ?_; rotate_left)
      (refine' pv ?_; rotate_left)
      (refine' PG.val rfl rfl (by intro _X; refine TL_index b.toNat rfl rfl rfl (fun w h => h.sl hk.k.m) (hb2) hb3 (Nat.le_refl _) ?_; exact qe) ?_; rotate_left)
      (refine' PG.val rfl rfl (by intro _X; refine TL_fieldAddr_el rfl rfl (fun w h => h.sl hk.k.m) hne ?_; exact qe) ?_; rotate_left)
      (refine' PG.val rfl rfl (by intro _X; refine TL_load_el1 (u := _) rfl rfl (fun w h => h.sl hk.k.m) hb1 rfl ?_; exact qe) ?_; rotate_left)
      (refine' PG.val rfl rfl (by intro _X; refine wo ?_; exact qe) ?_; rotate_left)
      (refine' pv ?_; rotate_left)
      exact PG.nil
    change TL _ _ _ _ _ _ _ _ _ _ _
    repeat' (first | refine rn ?_ | (refine zb ?_; intro _ _) | (refine za ?_; intro _ _) | (refine zs ?_; intro _ _))
    exact TQ_ret2 Tryz.results180 (RV.celln rfl mm (by rfl)) (RV.tmp rfl) (fun w' hs => ⟨rfl, hs.below⟩)
theorem c181 (k : Kp) (t : Tg) (b1 b3 : Nat) (w : World) (hk : KpAt w b1 k) (hv : Nv w) (hm : Sl w 1 encV (some ⟨b3, 0, none⟩) [.func (.func 180) #[] #[.pointer (some ⟨b1, 0, none⟩)]]) :
    Calls Tryz.prog 181 #[.agg (encTg t).toArray, .pointer (some ⟨b3, 0, none⟩)] w (RetV w (tV (marksW k.1 t.which t.which))) := by
  refine enter (args := [.agg (encTg t).toArray, .pointer (some ⟨b3, 0, none⟩)]) Tryz.func181 rfl Tryz.ntmps181 rfl (SH.refl _) ?_
  repeat' (first | refine rn ?_ | (refine zb ?_; intro _ _) | (refine za ?_; intro _ _) | (refine zs ?_; intro _ _))
  refine TL_load_el1 (i := 0) (o := 0) rfl rfl (fun w h => h.sl hm) rfl rfl ?_
  repeat' (first | refine rn ?_ | (refine zb ?_; intro _ _) | (refine za ?_; intro _ _) | (refine zs ?_; intro _ _))
  refine TL_callV (cl := [.pointer (some ⟨b1, 0, none⟩)]) rfl rfl rfl (fun w h => c180 k t.which t.which b1 w (hk.mono h.below) (hv.mono h.below)) ?_
  repeat' (first | refine rn ?_ | (refine zb ?_; intro _ _) | (refine za ?_; intro _ _) | (refine zs ?_; intro _ _))
  exact TQ_ret2 Tryz.results181 (RV.celln rfl mm (by rfl)) (RV.tmp rfl) (fun w' hs => ⟨rfl, hs.below⟩)
def betW (k : Ck) (n : Int) : Sp × Bool := if (k.marks.length : Int) ≤ n then ((1, 0), false) else marksW k n (wr (n + 1))
theorem c182 (k : Kp) (t : Tg) (b1 b3 : Nat) (w : World) (hk : KpAt w b1 k) (hv : Nv w) (hm : Sl w 1 encV (some ⟨b3, 0, none⟩) [.func (.func 180) #[] #[.pointer (some ⟨b1, 0, none⟩)]]) :
    Calls Tryz.prog 182 #[.agg (encTg t).toArray, .pointer (some ⟨b1, 0, none⟩), .pointer (some ⟨b3, 0, none⟩)] w (RetV w (tV (betW k.1 t.which))) := by
  refine enter (args := [.agg (encTg t).toArray, .pointer (some ⟨b1, 0, none⟩), .pointer (some ⟨b3, 0, none⟩)]) Tryz.func182 rfl Tryz.ntmps182 rfl (SH.refl _) ?_
  repeat' (first | refine rn ?_ | (refine zb ?_; intro _ _) | (refine za ?_; intro _ _) | (refine zs ?_; intro _ _))
  refine TL_load_el1 (i := 0) (o := 0) rfl rfl (fun w h => h.sl hk.b) rfl rfl ?_
  repeat' (first | refine rn ?_ | (refine zb ?_; intro _ _) | (refine za ?_; intro _ _) | (refine zs ?_; intro _ _))
  refine TC_cond_dec rfl (fun g => ?_) (fun g => ?_)
  · repeat' (first | refine rn ?_ | (refine zb ?_; intro _ _) | (refine za ?_; intro _ _) | (refine zs ?_; intro _ _))
    refine TL_load_eln (i := 0) (o := 0) rfl rfl (fun w h => h.sl hv) rfl rfl ?_
    repeat' (first | refine rn ?_ | (refine zb ?_; intro _ _) | (refine za ?_; intro _ _) | (refine zs ?_; intro _ _))
    exact TQ_ret2 Tryz.results182 (RV.celln rfl mm (by rfl)) (RV.tmp rfl) (fun w' hs => ⟨by unfold betW; rw [if_pos g]; rfl, hs.below⟩)
  · repeat' (first | refine rn ?_ | (refine zb ?_; intro _ _) | (refine za ?_; intro _ _) | (refine zs ?_; intro _ _))
    refine TL_load_el1 (i := 0) (o := 0) rfl rfl (fun w h => h.sl hm) rfl rfl ?_
    repeat' (first | refine rn ?_ | (refine zb ?_; intro _ _) | (refine za ?_; intro _ _) | (refine zs ?_; intro _ _) | (refine wo ?_))
    refine TL_callV (cl := [.pointer (some ⟨b1, 0, none⟩)]) rfl rfl rfl (fun w h => c180 k t.which (wr (t.which + 1)) b1 w (hk.mono h.below) (hv.mono h.below)) ?_
    repeat' (first | refine rn ?_ | (refine zb ?_; intro _ _) | (refine za ?_; intro _ _) | (refine zs ?_; intro _ _))
    exact TQ_ret2 Tryz.results182 (RV.celln rfl mm (by rfl)) (RV.tmp rfl) (fun w' hs => ⟨by unfold betW; rw [if_neg g]; rfl, hs.below⟩)
def starW (k : Kp) (t : Tg) : Sp × Bool := if In t.which 0 (k.1.stars.length - 1) ∧ In t.hands 0 20 then
    ((wr (wr (wr (1000 * (at1 k.1.stars t.which).1.1) - wr (k.2 * (at1 k.1.stars t.which).2.2)) + wr (t.hands * k.1.hand.1)), wr (wr (wr (1000 * (at1 k.1.stars t.which).1.2) - wr (k.2 * (at1 k.1.stars t.which).2.1)) + wr (t.hands * k.1.hand.2))), true) else ((1, 0), false)
theorem c183 (k : Kp) (t : Tg) (b1 : Nat) (w : World) (hk : KpAt w b1 k) (hv : Nv w) :
    Calls Tryz.prog 183 #[.agg (encTg t).toArray, .pointer (some ⟨b1, 0, none⟩)] w (RetV w (tV (starW k t))) := by
  have hsl := hk.k.sl
  unfold Small at hsl
  refine enter (args := [.agg (encTg t).toArray, .pointer (some ⟨b1, 0, none⟩)]) Tryz.func183 rfl Tryz.ntmps183 rfl (SH.refl _) ?_
  repeat' (first | refine rn ?_ | (refine zb ?_; intro _ _) | (refine za ?_; intro _ _) | (refine zs ?_; intro _ _))
  refine TL_load_el1 (i := 0) (o := 1) rfl rfl (fun w h => h.sl hk.b) rfl rfl ?_
  repeat' (first | refine rn ?_ | (refine zb ?_; intro _ _) | (refine za ?_; intro _ _) | (refine zs ?_; intro _ _))
  rename_i b2 _ b5 _ b6 _
  refine TL_callV rfl rfl rfl (fun w h => c67 0 _ [t.which] _ 1 (by simp [Small]) w (Sl.of_blk h mm (fun y _ => rfl) ⟨[], rfl⟩)) ?_
  repeat' (first | refine rn ?_ | (refine zb ?_; intro _ _) | (refine za ?_; intro _ _) | (refine zs ?_; intro _ _))
  refine TL_gsplit_dec rfl rfl (fun g1 => ?_) (fun g1 => ?_)
  · repeat' (first | refine rn ?_ | (refine zb ?_; intro _ _) | (refine za ?_; intro _ _) | (refine zs ?_; intro _ _))
    refine TL_load_eln (i := 0) (o := 0) rfl rfl (fun w h => h.sl hv) rfl rfl ?_
    repeat' (first | refine rn ?_ | (refine zb ?_; intro _ _) | (refine za ?_; intro _ _) | (refine zs ?_; intro _ _))
    refine TQ_ret2 Tryz.results183 (RV.celln rfl mm (by rfl)) (RV.tmp rfl) (fun w' hs => ⟨?_, hs.below⟩)
    unfold starW; rw [if_neg (fun h => g1 (by simpa using h.1))]; rfl
  repeat' (first | refine rn ?_ | (refine zb ?_; intro _ _) | (refine za ?_; intro _ _) | (refine zs ?_; intro _ _))
  refine TL_callV rfl rfl rfl (fun w h => c67 0 20 [t.hands] _ 1 (by simp [Small]) w (Sl.of_blk h mm (fun y _ => rfl) ⟨[], rfl⟩)) ?_
  repeat' (first | refine rn ?_ | (refine zb ?_; intro _ _) | (refine za ?_; intro _ _) | (refine zs ?_; intro _ _))
  refine TC_cond_dec rfl (fun g2 => ?_) (fun g2 => ?_)
  · repeat' (first | refine rn ?_ | (refine zb ?_; intro _ _) | (refine za ?_; intro _ _) | (refine zs ?_; intro _ _))
    refine TL_load_eln (i := 0) (o := 0) rfl rfl (fun w h => h.sl hv) rfl rfl ?_
    repeat' (first | refine rn ?_ | (refine zb ?_; intro _ _) | (refine za ?_; intro _ _) | (refine zs ?_; intro _ _))
    refine TQ_ret2 Tryz.results183 (RV.celln rfl mm (by rfl)) (RV.tmp rfl) (fun w' hs => ⟨?_, hs.below⟩)
    unfold starW; rw [if_neg (fun h => g2 (by simpa using h.2))]; rfl
  have g : In t.which 0 (k.1.stars.length - 1) ∧ In t.hands 0 20 := ⟨by simpa using g1, by simpa using g2⟩
  obtain ⟨ha1, ha2, ha3⟩ := at1_get g.1
  unfold starW
  rw [if_pos g]
  generalize at1 k.1.stars t.which = s at ha1 ⊢
  repeat' (first | refine rn ?_ | (refine zb ?_; intro _ _) | (refine za ?_; intro _ _) | (refine zs ?_; intro _ _))
  refine TL_load_el1 (i := 0) (o := 1) rfl rfl (fun w h => h.sl hk.b) rfl rfl ?_
  repeat' (first | refine rn ?_ | (refine zb ?_; intro _ _) | (refine za ?_; intro _ _) | (refine zs ?_; intro _ _))
  refine TL_index t.which.toNat rfl rfl rfl (fun w h => h.sl hk.k.s) ha2 ha3 (Nat.le_refl _) ?_
  refine TL_load_eln (u := s) rfl rfl (fun w h => h.sl hk.k.s) ha1 rfl ?_
  repeat' (first | refine rn ?_ | (refine zb ?_; intro _ _) | (refine za ?_; intro _ _) | (refine zs ?_; intro _ _))
  refine TL_callV rfl rfl rfl (fun w h => c81 s.1 w) ?_
  repeat' (first | refine rn ?_ | (refine zb ?_; intro _ _) | (refine za ?_; intro _ _) | (refine zs ?_; intro _ _) | (refine ra ?_))
  refine TL_load_el1 (i := 0) (o := 6) rfl rfl (fun w h => h.sl hk.b) rfl rfl ?_
  repeat' (first | refine rn ?_ | (refine zb ?_; intro _ _) | (refine za ?_; intro _ _) | (refine zs ?_; intro _ _) | (refine wo ?_))
  refine TL_load_el1 (i := 0) (o := 2) rfl rfl (fun w h => h.sl hk.b) rfl rfl ?_
  repeat' (first | refine rn ?_ | (refine zb ?_; intro _ _) | (refine za ?_; intro _ _) | (refine zs ?_; intro _ _) | (refine ra ?_) | (refine wo ?_))
  refine TL_load_el1 (i := 0) (o := 6) rfl rfl (fun w h => h.sl hk.b) rfl rfl ?_
  repeat' (first | refine rn ?_ | (refine zb ?_; intro _ _) | (refine za ?_; intro _ _) | (refine zs ?_; intro _ _) | (refine wo ?_))
  refine TL_load_el1 (i := 0) (o := 3) rfl rfl (fun w h => h.sl hk.b) rfl rfl ?_
  repeat' (first | refine rn ?_ | (refine zb ?_; intro _ _) | (refine za ?_; intro _ _) | (refine zs ?_; intro _ _) | (refine wo ?_))
  exact TQ_ret2 Tryz.results183 (RV.celln rfl mm (by rfl)) (RV.tmp rfl) (fun w' hs => ⟨rfl, hs.below⟩)
theorem c184 (t : Tg) (w : World) : Calls Tryz.prog 184 #[.agg (encTg t).toArray] w (RetV w (tV (ofW t.word, decide (Ord t.word (-100000) 100000)))) := by
  refine enter (args := [.agg (encTg t).toArray]) Tryz.func184 rfl Tryz.ntmps184 rfl (SH.refl _) ?_
  repeat' (first | refine rn ?_ | (refine zb ?_; intro _ _) | (refine za ?_; intro _ _) | (refine zs ?_; intro _ _))
  apply TC_draw 6; kernel_rfl; exact Tryz.mixed
  · iterate 2 (refine' pv ?_; rotate_left)
    (refine' PG.val rfl rfl (by intro _X; refine TL_callV rfl rfl rfl (fun w h => c81 t.word w) ?_; exact qe) ?_; rotate_left)
    iterate 2 (refine' pv ?_; rotate_left)
    (refine' PG.val rfl rfl (by intro _X; refine TL_callV rfl rfl rfl (fun w h => c69 t.word w) ?_; exact qe) ?_; rotate_left)
    exact PG.nil
  change TL _ _ _ _ _ _ _ _ _ _ _
  repeat' (first | refine rn ?_ | (refine zb ?_; intro _ _) | (refine za ?_; intro _ _) | (refine zs ?_; intro _ _))
  exact TQ_ret2 Tryz.results184 (RV.celln rfl mm (by rfl)) (RV.tmp rfl) (fun w' hs => ⟨rfl, hs.below⟩)
end Go.Proofs.YtkpkebpofpcmaaaGreatDoor
