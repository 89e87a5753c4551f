/- Walks of the package deed: whether deeds are valid, alike; copies of heirs. -/
import Derived.Test.YtkpkebpofpcmaaaGreatDoorD12
namespace Go.Proofs.YtkpkebpofpcmaaaGreatDoor
open Go Go.Eng Go.RowKit Go.Proofs
set_option maxHeartbeats 4000000
set_option maxRecDepth 10000
attribute [local irreducible] TL TC TQ

def kfl (k : Int) : Option (Bool × Bool × Bool × Bool × FuncId) :=
  if k = 4 then some (true, true, true, false, 159) else if k = 3 then some (false, false, false, true, 158) else if k = 2 then some (false, true, false, false, 157) else if k = 1 then some (true, true, false, false, 156) else none
theorem kfl_eq (k : Int) : kindsF k = (kfl k).map fun q => kdV q.1 q.2.1 q.2.2.1 q.2.2.2.1 q.2.2.2.2 := by
  unfold kindsF kfl fupd
  repeat' split
  all_goals first | rfl | skip
instance (x : Dd) : Decidable (headOk x) := inferInstanceAs (Decidable (_ ∧ _))
def validB (r : Ro) (x : Dd) : Bool := match kfl x.kind with
  | none => false
  | some q => decide (headOk x) && flagB r x q.1 q.2.1 q.2.2.1 q.2.2.2.1
theorem c122 (r : Ro) (x : Dd) (hn : Small x.heirs.length) (w : World) (hx : Sl w 2 encSp x.ao x.heirs) : Calls Tryz.prog 122 #[.agg (encRo r).toArray, .agg (encDd x).toArray] w (RetV w (.bool (validB r x))) := by
  unfold validB
  cases hk : kfl x.kind with
  | none => exact c122_no r x (by rw [kfl_eq, hk]; rfl) w
  | some q =>
    obtain ⟨a, b, c, d, f⟩ := q
    have hf : kindsF x.kind = some (kdV a b c d f) := by rw [kfl_eq, hk]; rfl
    by_cases hh : headOk x
    · have := c122_ok r x a b c d f hf hh hn w hx
      simpa [hh] using this
    · have := c122_bad r x a b c d f hf hh w
      simpa [hh] using this
theorem c121 (r : Ro) (x : Dd) (b : Nat) (hn : Small x.heirs.length) (w : World) (hx : Sl w 2 encSp x.ao x.heirs) (hb : Sl w 2 encRo (some ⟨b, 0, none⟩) [r]) : Calls Tryz.prog 121 #[.agg (encDd x).toArray, .pointer (some ⟨b, 0, none⟩)] w (RetV w (.bool (!validB r x))) := by
  refine enter (args := [.agg (encDd x).toArray, .pointer (some ⟨b, 0, none⟩)]) Tryz.func121 rfl Tryz.ntmps121 rfl (SH.refl _) ?_
  repeat' (first | refine rn ?_ | (refine zb ?_; intro _ _) | (refine za ?_; intro _ _) | (refine zs ?_; intro _ _))
  refine TL_load_eln (i := 0) (o := 0) rfl rfl (fun w h => h.sl hb) rfl rfl ?_
  repeat' (first | refine rn ?_ | (refine zb ?_; intro _ _) | (refine za ?_; intro _ _) | (refine zs ?_; intro _ _))
  refine TL_callV rfl rfl rfl (fun w h => c122 r x hn w (h.sl hx)) ?_
  repeat' (first | refine rn ?_ | (refine zb ?_; intro _ _) | (refine za ?_; intro _ _) | (refine zs ?_; intro _ _))
  exact TQ_ret1 Tryz.results121 (RV.tmp rfl) (fun w' hs => ⟨rfl, hs.below⟩)
/-- slices.Clone of heirs. -/
theorem c124 (l : List Sp) (ao : Option Addr) (c : Nat) (hn : l.length ≤ 100) (w : World) (hl : Sl w 2 encSp ao l) : Calls Tryz.prog 124 #[.slice ao l.length c] w (RetP w.heap.size w (fun q : Option Addr × Nat × Hp => .slice q.1 l.length q.2.1) (fun q => q.2.2) (fun q => RowE 214 2 encSp q.1 q.2.1 q.2.2 l)) := by
  refine enter (args := [.slice ao l.length c]) Tryz.func124 rfl Tryz.ntmps124 rfl (SH.refl _) ?_
  repeat' (first | refine rn ?_ | (refine zb ?_; intro _ _) | (refine za ?_; intro _ _) | (refine zs ?_; intro _ _))
  cases ao with
  | none =>
    have hl0 : l = [] := by
      refine Classical.byContradiction fun h => ?_
      obtain ⟨_, _, h2⟩ := hl.some_ h
      cases h2
    subst hl0
    refine TL_eql_slnil rfl rfl (b := true) rfl ?_
    repeat' (first | refine rn ?_ | (refine zb ?_; intro _ _) | (refine za ?_; intro _ _) | (refine zs ?_; intro _ _))
    exact TQ_ret1 Tryz.results124 (RV.tmp rfl) (fun w' hs => ⟨(none, 0, []), .inl (Row.nil _ _ _), rfl, hs⟩)
  | some a =>
    refine TL_eql_slnil rfl rfl (b := false) rfl ?_
    repeat' (first | refine rn ?_ | (refine zb ?_; intro _ _) | (refine za ?_; intro _ _) | (refine zs ?_; intro _ _))
    refine TL_append0 (l2 := l) (enc := encSp) rfl (by rfl) rfl rfl rfl (fun w h => h.sl hl) (fun u _ => rfl) (by omega) (by simp [maxLen]; omega) (fun so sc ob hr => ?_)
    repeat' (first | refine rn ?_ | (refine zb ?_; intro _ _) | (refine za ?_; intro _ _) | (refine zs ?_; intro _ _))
    exact TQ_ret1 Tryz.results124 (RV.tmp rfl) (fun w' hs => ⟨(so, sc, ob), hr, rfl, hs.sub (List.sublist_append_left _ _)⟩)
theorem c152 (l1 l2 : List Sp) (a1 a2 : Option Addr) (c1 c2 : Nat) (hn : Small l1.length) (hn2 : Small l2.length) (w : World) (h1 : Sl w 2 encSp a1 l1) (h2 : Sl w 2 encSp a2 l2) : Calls Tryz.prog 152 #[.slice a1 l1.length c1, .slice a2 l2.length c2] w (RetV w (.bool (decide (l1 = l2)))) := by
  unfold Small at hn hn2
  refine enter (args := [.slice a1 l1.length c1, .slice a2 l2.length c2]) Tryz.func152 rfl Tryz.ntmps152 rfl (SH.refl _) ?_
  repeat' (first | refine rn ?_ | (refine zb ?_; intro _ _) | (refine za ?_; intro _ _) | (refine zs ?_; intro _ _))
  refine TC_cond_dec rfl (fun g1 => ?_) (fun g1 => ?_)
  · repeat' (first | refine rn ?_ | (refine zb ?_; intro _ _) | (refine za ?_; intro _ _) | (refine zs ?_; intro _ _))
    exact TQ_ret1 Tryz.results152 (RV.tmp rfl) (fun w' hs => RetV.no (fun h => g1 (by rw [h])) hs.below)
  have hlen : l1.length = l2.length := by omega
  repeat' (first | refine rn ?_ | (refine zb ?_; intro _ _) | (refine za ?_; intro _ _) | (refine zs ?_; intro _ _))
  refine TC_loop (σ := Nat) (fun k => k ≤ l1.length ∧ ∀ i, i < k → l1[i]? = l2[i]?) (fun k => [(0, .slice a1 l1.length c1), (1, .slice a2 l2.length c2), (12, .int .i64 l1.length), (13, .int .i64 k)]) (fun k => []) (fun k => l1.length - k) 0 ⟨Nat.zero_le _, fun i h => by omega⟩ sb (fun w h => h) (fun k hk => ?_)
  repeat' (first | refine rn ?_ | (refine zb ?_; intro _ _) | (refine za ?_; intro _ _) | (refine zs ?_; intro _ _))
  refine TC_cond_dec rfl (fun g2 => ?_) (fun g2 => ?_)
  · have hlt : k < l1.length := by omega
    have hlt2 : k < l2.length := by omega
    obtain ⟨x, hx⟩ : ∃ x, l1[k]? = some x := ⟨_, List.getElem?_eq_getElem hlt⟩
    obtain ⟨y, hy⟩ : ∃ y, l2[k]? = some y := ⟨_, List.getElem?_eq_getElem hlt2⟩
    repeat' (first | refine rn ?_ | (refine zb ?_; intro _ _) | (refine za ?_; intro _ _) | (refine zs ?_; intro _ _))
    apply TC_draw 9; kernel_rfl; exact Tryz.mixed
    · iterate 2 (refine' pv ?_; rotate_left)
      (refine' PG.val rfl rfl (by intro _X; refine TL_index k rfl rfl rfl (fun w h => h.sl h1) rfl hlt (Nat.le_refl _) ?_; exact qe) ?_; rotate_left)
      (refine' PG.val rfl rfl (by intro _X; refine TL_load_eln (u := x) rfl rfl (fun w h => h.sl h1) hx rfl ?_; exact qe) ?_; rotate_left)
      iterate 2 (refine' pv ?_; rotate_left)
      (refine' PG.val rfl rfl (by intro _X; refine TL_index k rfl rfl rfl (fun w h => h.sl h2) rfl hlt2 (Nat.le_refl _) ?_; exact qe) ?_; rotate_left)
      (refine' PG.val rfl rfl (by intro _X; refine TL_load_eln (u := y) rfl rfl (fun w h => h.sl h2) hy rfl ?_; exact qe) ?_; rotate_left)
      (refine' pv ?_; rotate_left)
      exact PG.nil
    change TL _ _ _ _ _ _ _ _ _ _ _
    repeat' (first | refine rn ?_ | (refine zb ?_; intro _ _) | (refine za ?_; intro _ _) | (refine zs ?_; intro _ _))
    refine TC_cond_dec rfl (fun g3 => ?_) (fun g3 => ?_)
    · repeat' (first | refine rn ?_ | (refine zb ?_; intro _ _) | (refine za ?_; intro _ _) | (refine zs ?_; intro _ _))
      refine TQ_ret1 Tryz.results152 (RV.tmp rfl) (fun w' hs => RetV.no (fun h => g3 ?_) hs.below)
      rw [h, hy] at hx
      cases hx; rfl
    · repeat' (first | refine rn ?_ | (refine zb ?_; intro _ _) | (refine za ?_; intro _ _) | (refine zs ?_; intro _ _))
      refine TQ_round (k + 1) ⟨by omega, fun i hi => ?_⟩ (by omega) sb (fun w h => h)
      rcases Nat.lt_or_ge i k with h | h
      · exact hk.2 i h
      · have : i = k := by omega
        subst this
        rw [hx, hy]
        have e : x.1 = y.1 ∧ x.2 = y.2 := by simpa using g3
        rw [show x = y from Prod.ext e.1 e.2]
  · have hkl : k = l1.length := by omega
    subst hkl
    repeat' (first | refine rn ?_ | (refine zb ?_; intro _ _) | (refine za ?_; intro _ _) | (refine zs ?_; intro _ _))
    refine TQ_ret1 Tryz.results152 (RV.tmp rfl) (fun w' hs => RetV.yes (List.ext_getElem? fun i => ?_) hs.below)
    rcases Nat.lt_or_ge i l1.length with h | h
    · exact hk.2 i h
    · rw [List.getElem?_eq_none h, List.getElem?_eq_none (by omega)]
def alikeB (x y : Dd) : Bool := decide (x.id = y.id ∧ x.day = y.day ∧ x.kind = y.kind ∧ x.fr = y.fr ∧ x.to = y.to ∧ x.turn = y.turn ∧ x.until_ = y.until_ ∧ x.heirs = y.heirs)
theorem c123 (x y : Dd) (hn : Small x.heirs.length) (hn2 : Small y.heirs.length) (w : World) (h1 : Sl w 2 encSp x.ao x.heirs) (h2 : Sl w 2 encSp y.ao y.heirs) : Calls Tryz.prog 123 #[.agg (encDd x).toArray, .agg (encDd y).toArray] w (RetV w (.bool (alikeB x y))) := by
  unfold alikeB
  refine enter (args := [.agg (encDd x).toArray, .agg (encDd y).toArray]) Tryz.func123 rfl Tryz.ntmps123 rfl (SH.refl _) ?_
  repeat' (first | refine rn ?_ | (refine zb ?_; intro _ _) | (refine za ?_; intro _ _) | (refine zs ?_; intro _ _))
  refine TL_gsplit_dec rfl rfl (fun g1 => ?_) (fun g1 => ?_)
  rotate_left
  · repeat' (first | refine rn ?_ | (refine zb ?_; intro _ _) | (refine za ?_; intro _ _) | (refine zs ?_; intro _ _))
    exact TQ_ret1 Tryz.results123 (RV.tmp rfl) (fun w' hs => RetV.no (fun h => g1 (h.1)) hs.below)
  repeat' (first | refine rn ?_ | (refine zb ?_; intro _ _) | (refine za ?_; intro _ _) | (refine zs ?_; intro _ _))
  refine TL_gsplit_dec rfl rfl (fun g2 => ?_) (fun g2 => ?_)
  rotate_left
  · repeat' (first | refine rn ?_ | (refine zb ?_; intro _ _) | (refine za ?_; intro _ _) | (refine zs ?_; intro _ _))
    exact TQ_ret1 Tryz.results123 (RV.tmp rfl) (fun w' hs => RetV.no (fun h => g2 (h.2.1)) hs.below)
  repeat' (first | refine rn ?_ | (refine zb ?_; intro _ _) | (refine za ?_; intro _ _) | (refine zs ?_; intro _ _))
  refine TL_gsplit_dec rfl rfl (fun g3 => ?_) (fun g3 => ?_)
  rotate_left
  · repeat' (first | refine rn ?_ | (refine zb ?_; intro _ _) | (refine za ?_; intro _ _) | (refine zs ?_; intro _ _))
    exact TQ_ret1 Tryz.results123 (RV.tmp rfl) (fun w' hs => RetV.no (fun h => g3 (h.2.2.1)) hs.below)
  repeat' (first | refine rn ?_ | (refine zb ?_; intro _ _) | (refine za ?_; intro _ _) | (refine zs ?_; intro _ _))
  refine TL_gsplit_dec rfl rfl (fun g4 => ?_) (fun g4 => ?_)
  rotate_left
  · repeat' (first | refine rn ?_ | (refine zb ?_; intro _ _) | (refine za ?_; intro _ _) | (refine zs ?_; intro _ _))
    exact TQ_ret1 Tryz.results123 (RV.tmp rfl) (fun w' hs => RetV.no (fun h => g4 (h.2.2.2.1)) hs.below)
  repeat' (first | refine rn ?_ | (refine zb ?_; intro _ _) | (refine za ?_; intro _ _) | (refine zs ?_; intro _ _))
  refine TL_gsplit_dec rfl rfl (fun g5 => ?_) (fun g5 => ?_)
  rotate_left
  · repeat' (first | refine rn ?_ | (refine zb ?_; intro _ _) | (refine za ?_; intro _ _) | (refine zs ?_; intro _ _))
    exact TQ_ret1 Tryz.results123 (RV.tmp rfl) (fun w' hs => RetV.no (fun h => g5 (h.2.2.2.2.1)) hs.below)
  repeat' (first | refine rn ?_ | (refine zb ?_; intro _ _) | (refine za ?_; intro _ _) | (refine zs ?_; intro _ _))
  refine TL_gsplit_dec rfl rfl (fun g6 => ?_) (fun g6 => ?_)
  rotate_left
  · repeat' (first | refine rn ?_ | (refine zb ?_; intro _ _) | (refine za ?_; intro _ _) | (refine zs ?_; intro _ _))
    exact TQ_ret1 Tryz.results123 (RV.tmp rfl) (fun w' hs => RetV.no (fun h => g6 (by rw [h.2.2.2.2.2.1])) hs.below)
  repeat' (first | refine rn ?_ | (refine zb ?_; intro _ _) | (refine za ?_; intro _ _) | (refine zs ?_; intro _ _))
  refine TL_gsplit_dec rfl rfl (fun g7 => ?_) (fun g7 => ?_)
  rotate_left
  · repeat' (first | refine rn ?_ | (refine zb ?_; intro _ _) | (refine za ?_; intro _ _) | (refine zs ?_; intro _ _))
    exact TQ_ret1 Tryz.results123 (RV.tmp rfl) (fun w' hs => RetV.no (fun h => g7 (h.2.2.2.2.2.2.1)) hs.below)
  repeat' (first | refine rn ?_ | (refine zb ?_; intro _ _) | (refine za ?_; intro _ _) | (refine zs ?_; intro _ _))
  refine TL_callV rfl rfl rfl (fun w h => c152 x.heirs y.heirs x.ao y.ao x.cap y.cap hn hn2 w (h.sl h1) (h.sl h2)) ?_
  repeat' (first | refine rn ?_ | (refine zb ?_; intro _ _) | (refine za ?_; intro _ _) | (refine zs ?_; intro _ _))
  refine TQ_ret1 Tryz.results123 (RV.tmp rfl) (fun w' hs => ⟨?_, hs.below⟩)
  have e6 : x.turn = y.turn := by
    have : x.turn.1 = y.turn.1 ∧ x.turn.2 = y.turn.2 := by simpa using g6
    exact Prod.ext this.1 this.2
  have : x.heirs = y.heirs ↔ (x.id = y.id ∧ x.day = y.day ∧ x.kind = y.kind ∧ x.fr = y.fr ∧ x.to = y.to ∧ x.turn = y.turn ∧ x.until_ = y.until_ ∧ x.heirs = y.heirs) := ⟨fun h => ⟨g1, g2, g3, g4, g5, e6, g7, h⟩, fun h => h.2.2.2.2.2.2.2⟩
  rw [decide_eq_decide.2 this]
end Go.Proofs.YtkpkebpofpcmaaaGreatDoor
/- Walks of the package deed: the order of deeds; sorts of what is in order. -/
namespace Go.Proofs.YtkpkebpofpcmaaaGreatDoor
open Go Go.Eng Go.RowKit Go.Proofs
set_option maxHeartbeats 4000000
set_option maxRecDepth 10000
attribute [local irreducible] TL TC TQ

def cmpD (a b : Dd) : Int := if cmpR a.day b.day = 0 then cmpR a.id b.id else cmpR a.day b.day
def byV : List Value := [.func (.func 126) #[] #[], .func (.func 127) #[] #[]]
structure ByAt (w : World) (b2 bs : Nat) : Prop where
  p : Sl w 1 encV (some ⟨b2, 0, none⟩) [.slice (some ⟨bs, 0, none⟩) 2 2]
  s : Sl w 1 encV (some ⟨bs, 0, none⟩) byV
theorem c154 (a b : Dd) (b2 bs : Nat) (w : World) (hb : ByAt w b2 bs) : Calls Tryz.prog 154 #[.agg (encDd a).toArray, .agg (encDd b).toArray, .pointer (some ⟨b2, 0, none⟩)] w (RetV w (.int .i64 (cmpD a b))) := by
  unfold cmpD
  refine enter (args := [.agg (encDd a).toArray, .agg (encDd b).toArray, .pointer (some ⟨b2, 0, none⟩)]) Tryz.func154 rfl Tryz.ntmps154 rfl (SH.refl _) ?_
  repeat' (first | refine rn ?_ | (refine zb ?_; intro _ _) | (refine za ?_; intro _ _) | (refine zs ?_; intro _ _))
  rename_i b3 _ b4 _
  refine TL_load_el1 (i := 0) (o := 0) rfl rfl (fun w h => h.sl hb.p) rfl rfl ?_
  repeat' (first | refine rn ?_ | (refine zb ?_; intro _ _) | (refine za ?_; intro _ _) | (refine zs ?_; intro _ _))
  refine TC_loop (σ := Nat) (fun k => k ≤ 2 ∧ (0 < k → cmpR a.day b.day = 0) ∧ (1 < k → cmpR a.id b.id = 0)) (fun k => [(3, .pointer (some ⟨b3, 0, none⟩)), (4, .pointer (some ⟨b4, 0, none⟩)), (9, .slice (some ⟨bs, 0, none⟩) 2 2), (10, .int .i64 2), (11, .int .i64 k)]) (fun k => [(b4, .cells (encDd b) 50), (b3, .cells (encDd a) 50)]) (fun k => 2 - k) 0 ⟨by omega, fun h => by omega, fun h => by omega⟩ sb (fun w h => h) (fun k hk => ?_)
  obtain ⟨hk0, hk1, hk2⟩ := hk
  repeat' (first | refine rn ?_ | (refine zb ?_; intro _ _) | (refine za ?_; intro _ _) | (refine zs ?_; intro _ _))
  refine TC_cond_dec rfl (fun g1 => ?_) (fun g1 => ?_)
  · have hk : k = 0 ∨ k = 1 := by omega
    rcases hk with rfl | rfl
    · repeat' (first | refine rn ?_ | (refine zb ?_; intro _ _) | (refine za ?_; intro _ _) | (refine zs ?_; intro _ _))
      refine TL_index 0 rfl rfl rfl (fun w h => h.sl hb.s) rfl (by decide) (by decide) ?_
      refine TL_load_el1 (u := .func (.func 126) #[] #[]) rfl rfl (fun w h => h.sl hb.s) rfl rfl ?_
      repeat' (first | refine rn ?_ | (refine zb ?_; intro _ _) | (refine za ?_; intro _ _) | (refine zs ?_; intro _ _))
      apply TC_draw 7; kernel_rfl; exact Tryz.mixed
      · iterate 2 (refine' pv ?_; rotate_left)
        (refine' PG.val rfl rfl (by intro _X; refine TL_callV rfl rfl rfl (fun w h => c126 a w) ?_; exact qe) ?_; rotate_left)
        iterate 2 (refine' pv ?_; rotate_left)
        (refine' PG.val rfl rfl (by intro _X; refine TL_callV rfl rfl rfl (fun w h => c126 b w) ?_; exact qe) ?_; rotate_left)
        (refine' PG.val rfl rfl (by intro _X; refine TL_callV rfl rfl rfl (fun w h => c155 a.day b.day w) ?_; exact qe) ?_; rotate_left)
        exact PG.nil
      change TL _ _ _ _ _ _ _ _ _ _ _
      repeat' (first | refine rn ?_ | (refine zb ?_; intro _ _) | (refine za ?_; intro _ _) | (refine zs ?_; intro _ _))
      refine TC_cond_dec rfl (fun g2 => ?_) (fun g2 => ?_)
      · rw [if_neg g2]
        repeat' (first | refine rn ?_ | (refine zb ?_; intro _ _) | (refine za ?_; intro _ _) | (refine zs ?_; intro _ _))
        exact TQ_ret1 Tryz.results154 (RV.tmp rfl) (fun w' hs => ⟨rfl, hs.below⟩)
      · repeat' (first | refine rn ?_ | (refine zb ?_; intro _ _) | (refine za ?_; intro _ _) | (refine zs ?_; intro _ _))
        exact TQ_round 1 ⟨by omega, fun _ => Classical.not_not.1 g2, fun h => by omega⟩ (by omega) sb (fun w h => h)
    · rw [if_pos (hk1 (by omega))]
      repeat' (first | refine rn ?_ | (refine zb ?_; intro _ _) | (refine za ?_; intro _ _) | (refine zs ?_; intro _ _))
      refine TL_index 1 rfl rfl rfl (fun w h => h.sl hb.s) rfl (by decide) (by decide) ?_
      refine TL_load_el1 (u := .func (.func 127) #[] #[]) rfl rfl (fun w h => h.sl hb.s) rfl rfl ?_
      repeat' (first | refine rn ?_ | (refine zb ?_; intro _ _) | (refine za ?_; intro _ _) | (refine zs ?_; intro _ _))
      apply TC_draw 7; kernel_rfl; exact Tryz.mixed
      · iterate 2 (refine' pv ?_; rotate_left)
        (refine' PG.val rfl rfl (by intro _X; refine TL_callV rfl rfl rfl (fun w h => c127 a w) ?_; exact qe) ?_; rotate_left)
        iterate 2 (refine' pv ?_; rotate_left)
        (refine' PG.val rfl rfl (by intro _X; refine TL_callV rfl rfl rfl (fun w h => c127 b w) ?_; exact qe) ?_; rotate_left)
        (refine' PG.val rfl rfl (by intro _X; refine TL_callV rfl rfl rfl (fun w h => c155 a.id b.id w) ?_; exact qe) ?_; rotate_left)
        exact PG.nil
      change TL _ _ _ _ _ _ _ _ _ _ _
      repeat' (first | refine rn ?_ | (refine zb ?_; intro _ _) | (refine za ?_; intro _ _) | (refine zs ?_; intro _ _))
      refine TC_cond_dec rfl (fun g2 => ?_) (fun g2 => ?_)
      · repeat' (first | refine rn ?_ | (refine zb ?_; intro _ _) | (refine za ?_; intro _ _) | (refine zs ?_; intro _ _))
        exact TQ_ret1 Tryz.results154 (RV.tmp rfl) (fun w' hs => ⟨rfl, hs.below⟩)
      · repeat' (first | refine rn ?_ | (refine zb ?_; intro _ _) | (refine za ?_; intro _ _) | (refine zs ?_; intro _ _))
        exact TQ_round 2 ⟨by omega, fun _ => hk1 (by omega), fun _ => Classical.not_not.1 g2⟩ (by omega) sb (fun w h => h)
  · have hkl : k = 2 := by omega
    subst hkl
    rw [if_pos (hk1 (by omega)), hk2 (by omega)]
    repeat' (first | refine rn ?_ | (refine zb ?_; intro _ _) | (refine za ?_; intro _ _) | (refine zs ?_; intro _ _))
    exact TQ_ret1 Tryz.results154 (RV.tmp rfl) (fun w' hs => ⟨rfl, hs.below⟩)
/-- Each one not before the one ahead of it. -/
def InOrd (l : List Dd) : Prop := ∀ (j : Nat) x y, l[j]? = some x → l[j + 1]? = some y → ¬ cmpD y x < 0
def cmpV (b2 : Nat) : Value := .func (.func 154) #[] #[.pointer (some ⟨b2, 0, none⟩)]
end Go.Proofs.YtkpkebpofpcmaaaGreatDoor
