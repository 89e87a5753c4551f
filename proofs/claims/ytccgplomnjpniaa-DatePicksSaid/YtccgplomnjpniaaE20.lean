/- Walks: slices.Clone, slices.Clip, before. -/
import Derived.Test.YtccgplomnjpniaaE0
import Derived.Test.YtccgplomnjpniaaP0
namespace Go.Proofs.Ytccgplomnjpniaa
open Go Go.Eng Go.RowKit Go.Proofs
set_option maxHeartbeats 1000000
set_option maxRecDepth 10000
attribute [local irreducible] TL TC TQ

theorem c65 (l : List Int) (ao : Option Addr) (c : Nat) (hl : l.length ≤ 1000000) (w : World) (ha : Sl w 1 encI ao l) :
    Calls Try.prog 65 #[.slice ao l.length c] w (RetP w.heap.size w (fun q : Option Addr × Nat × Hp => .slice q.1 l.length q.2.1) (fun q => q.2.2) (fun q => Row 3 1 encI q.1 q.2.1 q.2.2 l)) := by
  cases ao with
  | none =>
    have hnil : l = [] := by
      cases l with
      | nil => rfl
      | cons x l => obtain ⟨b, o, h⟩ := ha.some_ (by simp); cases h
    subst hnil
    refine enter (args := [.slice none ([] : List Int).length c]) Try.func65 rfl Try.ntmps65 rfl (SH.refl _) ?_
    repeat' (first | refine rn ?_ | (apply TL_box; exact rfl; exact rfl; exact rfl; intro _ _) | (apply TL_alloc; exact rfl; intro _ _) | (apply TL_buildSlice; exact rfl; exact rfl; exact rfl; exact rfl; exact rfl; intro _ _))
    refine TL_eql_slnil (b := true) rfl rfl rfl ?_
    repeat' (first | refine rn ?_ | (apply TL_box; exact rfl; exact rfl; exact rfl; intro _ _) | (apply TL_alloc; exact rfl; intro _ _) | (apply TL_buildSlice; exact rfl; exact rfl; exact rfl; exact rfl; exact rfl; intro _ _))
    exact TQ_ret1 Try.results65 (RV.tmp rfl) (fun w' hs => ⟨(none, 0, []), Row.nil _ _ _, rfl, hs⟩)
  | some a =>
    refine enter (args := [.slice (some a) l.length c]) Try.func65 rfl Try.ntmps65 rfl (SH.refl _) ?_
    repeat' (first | refine rn ?_ | (apply TL_box; exact rfl; exact rfl; exact rfl; intro _ _) | (apply TL_alloc; exact rfl; intro _ _) | (apply TL_buildSlice; exact rfl; exact rfl; exact rfl; exact rfl; exact rfl; intro _ _))
    refine TL_eql_slnil (b := false) rfl rfl rfl ?_
    repeat' (first | refine rn ?_ | (apply TL_box; exact rfl; exact rfl; exact rfl; intro _ _) | (apply TL_alloc; exact rfl; intro _ _) | (apply TL_buildSlice; exact rfl; exact rfl; exact rfl; exact rfl; exact rfl; intro _ _))
    rename_i b5 _
    refine TL_append (l := ([] : List Int)) (l2 := l) (enc := encI) (T := 3) (ob := [(b5, .cells [] 3)]) (G := _) rfl (by rfl) rfl rfl rfl rfl rfl ⟨fun x hx => (by cases hx), .inr ⟨b5, [], rfl, rfl, by simp, by simp [maxLen], by simp⟩⟩ (List.Perm.refl _) (fun w h => h.sl ha) (fun u hu => rfl) (by simp only [List.length_nil]; omega) (by simp only [List.length_nil, maxLen]; omega) (fun so2 sc2 ob2 hrow2 => ?_)
    rw [List.nil_append] at hrow2 ⊢
    repeat' (first | refine rn ?_ | (apply TL_box; exact rfl; exact rfl; exact rfl; intro _ _) | (apply TL_alloc; exact rfl; intro _ _) | (apply TL_buildSlice; exact rfl; exact rfl; exact rfl; exact rfl; exact rfl; intro _ _))
    exact TQ_ret1 Try.results65 (RV.tmp rfl) (fun w' hs => ⟨(so2, sc2, ob2), hrow2, rfl, hs.sub (List.sublist_append_left _ _)⟩)

def clipA (ao : Option Addr) (n : Nat) : Option Addr := if n = 0 then ao else ao.map (·.add 0)
theorem Sl.clip {w : World} {ao : Option Addr} {l : List Int} (h : Sl w 1 encI ao l) : Sl w 1 encI (clipA ao l.length) l := by
  unfold clipA
  split
  · exact h
  · rename_i hn
    obtain ⟨b, o, rfl⟩ := h.some_ (fun e => hn (by rw [e]; rfl))
    have : (some (⟨b, o, none⟩ : Addr)).map (·.add 0) = some ⟨b, o, none⟩ := by simp [add_plain']
    rw [this]; exact h
theorem c66 (l : List Int) (ao : Option Addr) (c : Nat) (hl : l.length ≤ 1000000) (hc : l.length ≤ c) (w : World) : Calls Try.prog 66 #[.slice ao l.length c] w (RetV w (.slice (clipA ao l.length) l.length l.length)) := by
  refine enter (args := [.slice ao l.length c]) Try.func66 rfl Try.ntmps66 rfl (SH.refl _) ?_
  repeat' (first | refine rn ?_ | (apply TL_box; exact rfl; exact rfl; exact rfl; intro _ _) | (apply TL_alloc; exact rfl; intro _ _) | (apply TL_buildSlice; exact rfl; exact rfl; exact rfl; exact rfl; exact rfl; intro _ _))
  refine TL_slice3 l.length l.length rfl rfl rfl rfl rfl rfl (Nat.le_refl _) hc ?_
  repeat' (first | refine rn ?_ | (apply TL_box; exact rfl; exact rfl; exact rfl; intro _ _) | (apply TL_alloc; exact rfl; intro _ _) | (apply TL_buildSlice; exact rfl; exact rfl; exact rfl; exact rfl; exact rfl; intro _ _))
  exact TQ_ret1 Try.results66 (RV.tmp rfl) (fun w' hs => ⟨rfl, hs.below⟩)

theorem lexB_drop {la lb : List Int} {k : Nat} {x y : Int} (hx : la[k]? = some x) (hy : lb[k]? = some y) : Pick.lexB (la.drop k) (lb.drop k) = if x = y then Pick.lexB (la.drop (k + 1)) (lb.drop (k + 1)) else decide (x < y) := by
  have e1 : la.drop k = x :: la.drop (k + 1) := by
    obtain ⟨h, rfl⟩ := List.getElem?_eq_some_iff.1 hx
    exact List.drop_eq_getElem_cons h
  have e2 : lb.drop k = y :: lb.drop (k + 1) := by
    obtain ⟨h, rfl⟩ := List.getElem?_eq_some_iff.1 hy
    exact List.drop_eq_getElem_cons h
  rw [e1, e2]; rfl
theorem c67 (la lb : List Int) (ao bo : Option Addr) (ca cb : Nat) (hla : la.length ≤ 1000000) (hlb : lb.length ≤ 1000000) (w : World) (ha : Sl w 1 encI ao la) (hb : Sl w 1 encI bo lb) :
    Calls Try.prog 67 #[.slice ao la.length ca, .slice bo lb.length cb] w (RetV w (.bool (Pick.bef la lb))) := by
  refine enter (args := [.slice ao la.length ca, .slice bo lb.length cb]) Try.func67 rfl Try.ntmps67 rfl (SH.refl _) ?_
  repeat' (first | refine rn ?_ | (apply TL_box; exact rfl; exact rfl; exact rfl; intro _ _) | (apply TL_alloc; exact rfl; intro _ _) | (apply TL_buildSlice; exact rfl; exact rfl; exact rfl; exact rfl; exact rfl; intro _ _))
  refine TC_cond_dec rfl (fun h1 => ?_) (fun h1 => ?_)
  · repeat' (first | refine rn ?_ | (apply TL_box; exact rfl; exact rfl; exact rfl; intro _ _) | (apply TL_alloc; exact rfl; intro _ _) | (apply TL_buildSlice; exact rfl; exact rfl; exact rfl; exact rfl; exact rfl; intro _ _))
    have e : Pick.bef la lb = decide ((la.length : Int) < lb.length) := by
      unfold Pick.bef; rw [if_neg (by omega), decide_eq_decide]; omega
    rw [e]
    exact TQ_ret1 Try.results67 (RV.tmp rfl) (fun w' hs => ⟨rfl, hs.below⟩)
  have hlen : la.length = lb.length := by omega
  have e : Pick.bef la lb = Pick.lexB la lb := by unfold Pick.bef; rw [if_pos hlen]
  rw [e]
  repeat' (first | refine rn ?_ | (apply TL_box; exact rfl; exact rfl; exact rfl; intro _ _) | (apply TL_alloc; exact rfl; intro _ _) | (apply TL_buildSlice; exact rfl; exact rfl; exact rfl; exact rfl; exact rfl; intro _ _))
  refine TC_loop (σ := Nat) (fun k => k ≤ la.length ∧ Pick.lexB la lb = Pick.lexB (la.drop k) (lb.drop k)) (fun k => [(0, .slice ao la.length ca), (1, .slice bo lb.length cb), (5, .int .i64 k)]) (fun k => []) (fun k => la.length - k) 0 ⟨Nat.zero_le _, rfl⟩ sb (fun w h => h) (fun k hk => ?_)
  obtain ⟨hk, hlex⟩ := hk
  repeat' (first | refine rn ?_ | (apply TL_box; exact rfl; exact rfl; exact rfl; intro _ _) | (apply TL_alloc; exact rfl; intro _ _) | (apply TL_buildSlice; exact rfl; exact rfl; exact rfl; exact rfl; exact rfl; intro _ _))
  refine TC_cond_dec rfl (fun h2 => ?_) (fun h2 => ?_)
  · have hlt : k < la.length := by omega
    obtain ⟨x, hx⟩ : ∃ x, la[k]? = some x := ⟨_, List.getElem?_eq_getElem hlt⟩
    obtain ⟨y, hy⟩ : ∃ y, lb[k]? = some y := ⟨_, List.getElem?_eq_getElem (by omega)⟩
    rw [lexB_drop hx hy] at hlex
    repeat' (first | refine rn ?_ | (apply TL_box; exact rfl; exact rfl; exact rfl; intro _ _) | (apply TL_alloc; exact rfl; intro _ _) | (apply TL_buildSlice; exact rfl; exact rfl; exact rfl; exact rfl; exact rfl; intro _ _))
    apply TC_draw 9; kernel_rfl; exact Try.mixed
    · iterate 2 (refine' pv ?_; rotate_left)
      (refine' PG.val rfl rfl (by intro _X; refine TL_index k rfl rfl rfl (fun w h => h.sl ha) rfl hlt (Nat.le_refl _) ?_; exact qe) ?_; rotate_left)
      (refine' PG.val rfl rfl (by intro _X; refine TL_load_el1 (u := x) rfl rfl (fun w h => h.sl ha) hx rfl ?_; exact qe) ?_; rotate_left)
      iterate 2 (refine' pv ?_; rotate_left)
      (refine' PG.val rfl rfl (by intro _X; refine TL_index k rfl rfl rfl (fun w h => h.sl hb) rfl (by omega) (Nat.le_refl _) ?_; exact qe) ?_; rotate_left)
      (refine' PG.val rfl rfl (by intro _X; refine TL_load_el1 (u := y) rfl rfl (fun w h => h.sl hb) hy rfl ?_; exact qe) ?_; rotate_left)
      (refine' pv ?_; rotate_left)
      exact PG.nil
    change TL _ _ _ _ _ _ _ _ _ _ _
    repeat' (first | refine rn ?_ | (apply TL_box; exact rfl; exact rfl; exact rfl; intro _ _) | (apply TL_alloc; exact rfl; intro _ _) | (apply TL_buildSlice; exact rfl; exact rfl; exact rfl; exact rfl; exact rfl; intro _ _))
    refine TC_cond_dec rfl (fun h3 => ?_) (fun h3 => ?_)
    · rw [if_neg h3] at hlex
      rw [hlex]
      repeat' (first | refine rn ?_ | (apply TL_box; exact rfl; exact rfl; exact rfl; intro _ _) | (apply TL_alloc; exact rfl; intro _ _) | (apply TL_buildSlice; exact rfl; exact rfl; exact rfl; exact rfl; exact rfl; intro _ _))
      apply TC_draw 10; kernel_rfl; exact Try.mixed
      · iterate 2 (refine' pv ?_; rotate_left)
        (refine' PG.val rfl rfl (by intro _X; refine TL_index k rfl rfl rfl (fun w h => h.sl ha) rfl hlt (Nat.le_refl _) ?_; exact qe) ?_; rotate_left)
        (refine' PG.val rfl rfl (by intro _X; refine TL_load_el1 (u := x) rfl rfl (fun w h => h.sl ha) hx rfl ?_; exact qe) ?_; rotate_left)
        iterate 2 (refine' pv ?_; rotate_left)
        (refine' PG.val rfl rfl (by intro _X; refine TL_index k rfl rfl rfl (fun w h => h.sl hb) rfl (by omega) (Nat.le_refl _) ?_; exact qe) ?_; rotate_left)
        (refine' PG.val rfl rfl (by intro _X; refine TL_load_el1 (u := y) rfl rfl (fun w h => h.sl hb) hy rfl ?_; exact qe) ?_; rotate_left)
        iterate 2 (refine' pv ?_; rotate_left)
        exact PG.nil
      change TL _ _ _ _ _ _ _ _ _ _ _
      repeat' (first | refine rn ?_ | (apply TL_box; exact rfl; exact rfl; exact rfl; intro _ _) | (apply TL_alloc; exact rfl; intro _ _) | (apply TL_buildSlice; exact rfl; exact rfl; exact rfl; exact rfl; exact rfl; intro _ _))
      exact TQ_ret1 Try.results67 (RV.tmp rfl) (fun w' hs => ⟨rfl, hs.below⟩)
    · rw [if_pos (Classical.not_not.1 h3)] at hlex
      repeat' (first | refine rn ?_ | (apply TL_box; exact rfl; exact rfl; exact rfl; intro _ _) | (apply TL_alloc; exact rfl; intro _ _) | (apply TL_buildSlice; exact rfl; exact rfl; exact rfl; exact rfl; exact rfl; intro _ _))
      exact TQ_round (k + 1) ⟨hlt, hlex⟩ (by omega) sb (fun w h => h)
  · have hkl : k = la.length := by omega
    subst hkl
    rw [hlex, List.drop_length]
    repeat' (first | refine rn ?_ | (apply TL_box; exact rfl; exact rfl; exact rfl; intro _ _) | (apply TL_alloc; exact rfl; intro _ _) | (apply TL_buildSlice; exact rfl; exact rfl; exact rfl; exact rfl; exact rfl; intro _ _))
    exact TQ_ret1 Try.results67 (RV.tmp rfl) (fun w' hs => ⟨rfl, hs.below⟩)
end Go.Proofs.Ytccgplomnjpniaa
