/- Walks: the statement TopTold. -/
import Derived.Test.YtkpkebpofpcmaaaGreatDoorEngR
import Derived.Test.YtkpkebpofpcmaaaGreatDoorS9
import Derived.Test.YtkpkebpofpcmaaaGreatDoorS10
namespace Go.Proofs.YtkpkebpofpcmaaaGreatDoor
open Go Go.Eng Go.RowKit Go.Proofs
set_option maxHeartbeats 4000000
set_option maxRecDepth 10000
attribute [local irreducible] TL TC TQ

def grtD (r : Ro) (l : List Dd) : Bool := decide (80 < (r.holds.length : Int) ∨ 80 < (l.length : Int) ∨ ∃ x ∈ l, 12 < (x.heirs.length : Int))
theorem c22 (r : Ro) (l : List Dd) (ao : Option Addr) (c : Nat) (w : World) (hl : Sl w 9 encDd ao l) : Calls Tryz.prog 22 #[.agg (encRo r).toArray, .slice ao l.length c] w (RetV w (.bool (grtD r l))) := by
  unfold grtD
  refine enter (args := [.agg (encRo r).toArray, .slice ao l.length c]) Tryz.func22 rfl Tryz.ntmps22 rfl (SH.refl _) ?_
  repeat' (first | refine rn ?_ | (refine zb ?_; intro _ _) | (refine za ?_; intro _ _) | (refine zs ?_; intro _ _))
  refine TL_gsplit_dec rfl rfl (fun g1 => ?_) (fun g1 => ?_)
  · repeat' (first | refine rn ?_ | (refine zb ?_; intro _ _) | (refine za ?_; intro _ _) | (refine zs ?_; intro _ _))
    exact TQ_ret1 Tryz.results22 (RV.tmp rfl) (fun w' hs => RetV.yes (.inl g1) hs.below)
  repeat' (first | refine rn ?_ | (refine zb ?_; intro _ _) | (refine za ?_; intro _ _) | (refine zs ?_; intro _ _))
  refine TC_cond_dec rfl (fun g2 => ?_) (fun g2 => ?_)
  · repeat' (first | refine rn ?_ | (refine zb ?_; intro _ _) | (refine za ?_; intro _ _) | (refine zs ?_; intro _ _))
    exact TQ_ret1 Tryz.results22 (RV.tmp rfl) (fun w' hs => RetV.yes (.inr (.inl g2)) hs.below)
  repeat' (first | refine rn ?_ | (refine zb ?_; intro _ _) | (refine za ?_; intro _ _) | (refine zs ?_; intro _ _))
  refine TC_loop (σ := Nat) (fun k => k ≤ l.length ∧ ∀ (i : Nat) x, i < k → l[i]? = some x → ¬ 12 < (x.heirs.length : Int)) (fun k => [(1, .slice ao l.length c), (5, .int .i64 k)]) (fun _ => []) (fun k => l.length - k) 0 ⟨Nat.zero_le _, fun i x h => by omega⟩ sb (fun w h => h.sub (List.nil_sublist _)) (fun k hk => ?_)
  obtain ⟨hk, hno⟩ := hk
  repeat' (first | refine rn ?_ | (refine zb ?_; intro _ _) | (refine za ?_; intro _ _) | (refine zs ?_; intro _ _))
  refine TC_cond_dec rfl (fun g3 => ?_) (fun g3 => ?_)
  · have hlt : k < l.length := by omega
    obtain ⟨x, hx⟩ : ∃ x, l[k]? = some x := ⟨_, List.getElem?_eq_getElem hlt⟩
    have hne : l ≠ [] := fun e => by rw [e] at hlt; simp at hlt
    repeat' (first | refine rn ?_ | (refine zb ?_; intro _ _) | (refine za ?_; intro _ _) | (refine zs ?_; intro _ _))
    refine TL_index k rfl rfl rfl (fun w h => h.sl hl) rfl hlt (Nat.le_refl _) ?_
    refine TL_fieldAddr_el rfl rfl (fun w h => h.sl hl) hne ?_
    refine TL_load_el1 (u := x) rfl rfl (fun w h => h.sl hl) hx rfl ?_
    repeat' (first | refine rn ?_ | (refine zb ?_; intro _ _) | (refine za ?_; intro _ _) | (refine zs ?_; intro _ _))
    refine TC_cond_dec rfl (fun g4 => ?_) (fun g4 => ?_)
    · repeat' (first | refine rn ?_ | (refine zb ?_; intro _ _) | (refine za ?_; intro _ _) | (refine zs ?_; intro _ _))
      exact TQ_ret1 Tryz.results22 (RV.tmp rfl) (fun w' hs => RetV.yes (.inr (.inr ⟨x, List.mem_of_getElem? hx, g4⟩)) hs.below)
    · repeat' (first | refine rn ?_ | (refine zb ?_; intro _ _) | (refine za ?_; intro _ _) | (refine zs ?_; intro _ _))
      refine TQ_round (k + 1) ⟨hlt, fun i y hi hy => ?_⟩ (by omega) sb (fun w h => h)
      rcases Nat.lt_or_ge i k with h | h
      · exact hno i y h hy
      · have : i = k := by omega
        subst this; rw [hx] at hy; cases hy; exact g4
  · repeat' (first | refine rn ?_ | (refine zb ?_; intro _ _) | (refine za ?_; intro _ _) | (refine zs ?_; intro _ _))
    refine TQ_ret1 Tryz.results22 (RV.tmp rfl) (fun w' hs => RetV.no (fun h => ?_) hs.below)
    rcases h with h | h | ⟨x, hx, h⟩
    · exact g1 h
    · exact g2 h
    · obtain ⟨i, hi, rfl⟩ := List.getElem_of_mem hx
      exact hno i _ (by omega) (List.getElem?_eq_getElem hi) h
theorem c5 (k : Ck) (day : Int) (l : List Tg) (lo : Option Addr) (lc : Nat) (r : Ro) (ds : List Dd) (da : Option Addr) (dc : Nat) (by_ : Int) (hby : 0 ≤ by_ ∧ by_ ≤ 4294967295) (w : World) (hkm : Sl w 2 encSp k.mao k.marks) (hks : Sl w 4 encSt k.sao k.stars) (hl : Sl w 5 encTg lo l) (hr : Sl w 3 encHo r.ao r.holds) (hds : Sl w 9 encDd da ds) (hdh : ∀ x ∈ ds, Sl w 2 encSp x.ao x.heirs) (hv : Nv w) :
    Calls Tryz.prog 5 #[.agg (encCk k).toArray, .int .i64 day, .slice lo l.length lc, .agg (encRo r).toArray, .slice da ds.length dc, .int .u32 by_] w (RetV w (.bool true)) := by
  refine enter (args := [.agg (encCk k).toArray, .int .i64 day, .slice lo l.length lc, .agg (encRo r).toArray, .slice da ds.length dc, .int .u32 by_]) Tryz.func5 rfl Tryz.ntmps5 rfl (SH.refl _) ?_
  repeat' (first | refine rn ?_ | (refine zb ?_; intro _ _) | (refine za ?_; intro _ _) | (refine zs ?_; intro _ _))
  rename_i b6 _ b9 _
  refine TL_callV rfl rfl rfl (fun w h => c21 w (hv.mono h.below)) ?_
  repeat' (first | refine rn ?_ | (refine zb ?_; intro _ _) | (refine za ?_; intro _ _) | (refine zs ?_; intro _ _))
  refine TL_callV rfl rfl rfl (fun w h => c8 k w) ?_
  repeat' (first | refine rn ?_ | (refine zb ?_; intro _ _) | (refine za ?_; intro _ _) | (refine zs ?_; intro _ _))
  refine TL_gsplit_dec rfl rfl (fun g1 => ?_) (fun g1 => ?_)
  · repeat' (first | refine rn ?_ | (refine zb ?_; intro _ _) | (refine za ?_; intro _ _) | (refine zs ?_; intro _ _))
    exact TQ_ret1 Tryz.results5 (RV.tmp rfl) (fun w' hs => ⟨rfl, hs.below⟩)
  repeat' (first | refine rn ?_ | (refine zb ?_; intro _ _) | (refine za ?_; intro _ _) | (refine zs ?_; intro _ _))
  refine TL_gsplit_dec rfl rfl (fun g2 => ?_) (fun g2 => ?_)
  · repeat' (first | refine rn ?_ | (refine zb ?_; intro _ _) | (refine za ?_; intro _ _) | (refine zs ?_; intro _ _))
    exact TQ_ret1 Tryz.results5 (RV.tmp rfl) (fun w' hs => ⟨rfl, hs.below⟩)
  repeat' (first | refine rn ?_ | (refine zb ?_; intro _ _) | (refine za ?_; intro _ _) | (refine zs ?_; intro _ _))
  refine TL_callV rfl rfl rfl (fun w h => c22 r ds da dc w (h.sl hds)) ?_
  cases hg : grtD r ds with
  | true =>
    repeat' (first | refine rn ?_ | (refine zb ?_; intro _ _) | (refine za ?_; intro _ _) | (refine zs ?_; intro _ _))
    exact TQ_ret1 Tryz.results5 (RV.tmp rfl) (fun w' hs => ⟨rfl, hs.below⟩)
  | false =>
  repeat' (first | refine rn ?_ | (refine zb ?_; intro _ _) | (refine za ?_; intro _ _) | (refine zs ?_; intro _ _))
  have hl16 : l.length ≤ 16 := by omega
  have hk : CkAt w k := ⟨hkm, hks, by unfold Small; unfold greatC at g1; omega, by unfold Small; unfold greatC at g1; omega⟩
  unfold grtD at hg
  have hg := of_decide_eq_false hg
  have hrn : Small r.holds.length := by unfold Small; omega
  have hd : DdsAt w da ds := ⟨hds, hdh, by unfold Small; omega, fun x hx => by
    have : ¬ 12 < (x.heirs.length : Int) := fun h => hg (.inr (.inr ⟨x, hx, h⟩))
    unfold Small; omega⟩
  refine TL_callV rfl rfl rfl (fun w h => c23 k day l lo lc (by omega) w (h.sl hl) (hk.mono h.below) (hv.mono h.below)) ?_
  obtain ⟨s, hs⟩ : ∃ s, s = (allR k day l).1 := ⟨_, rfl⟩
  obtain ⟨e1, he1⟩ : ∃ e, e = (allR k day l).2 := ⟨_, rfl⟩
  rw [← hs, ← he1]
  repeat' (first | refine rn ?_ | (refine zb ?_; intro _ _) | (refine za ?_; intro _ _) | (refine zs ?_; intro _ _))
  rename_i b14 _
  refine TL_callN rfl rfl rfl (fun w h => c24 r ds da dc day w (h.sl hr) hrn ⟨h.sl hd.s, fun x hx => h.sl (hd.h x hx), hd.n, hd.hn⟩) ?_
  rintro ⟨⟨o1, oc, ox⟩, ⟨uo, uc, ub⟩⟩ hu
  have hch := uM_ch (r := r) (l := ds) (day := day)
  obtain ⟨U, hU⟩ : ∃ U, U = uM r ds day := ⟨_, rfl⟩
  have hRd : useR r ds day = if U.1 = 0 then runsM (fun p => userP p day) U.2.1 else [] := by rw [hU]; rfl
  rw [← hU] at hch ⊢
  obtain ⟨R, hR⟩ : ∃ R, R = useR r ds day := ⟨_, rfl⟩
  rw [← hR] at hu hRd ⊢
  dsimp only at hu ⊢
  repeat' (first | refine rn ?_ | (refine zb ?_; intro _ _) | (refine za ?_; intro _ _) | (refine zs ?_; intro _ _))
  refine TL_gsplit_dec rfl rfl (fun g3 => ?_) (fun g3 => ?_)
  · repeat' (first | refine rn ?_ | (refine zb ?_; intro _ _) | (refine za ?_; intro _ _) | (refine zs ?_; intro _ _))
    exact TQ_ret1 Tryz.results5 (RV.tmp rfl) (fun w' hs => ⟨rfl, hs.below⟩)
  repeat' (first | refine rn ?_ | (refine zb ?_; intro _ _) | (refine za ?_; intro _ _) | (refine zs ?_; intro _ _))
  refine TL_gsplit_dec rfl rfl (fun g4 => ?_) (fun g4 => ?_)
  · repeat' (first | refine rn ?_ | (refine zb ?_; intro _ _) | (refine za ?_; intro _ _) | (refine zs ?_; intro _ _))
    exact TQ_ret1 Tryz.results5 (RV.tmp rfl) (fun w' hs => ⟨rfl, hs.below⟩)
  repeat' (first | refine rn ?_ | (refine zb ?_; intro _ _) | (refine za ?_; intro _ _) | (refine zs ?_; intro _ _))
  refine TL_gsplit_dec rfl rfl (fun g5 => ?_) (fun g5 => ?_)
  · repeat' (first | refine rn ?_ | (refine zb ?_; intro _ _) | (refine za ?_; intro _ _) | (refine zs ?_; intro _ _))
    exact TQ_ret1 Tryz.results5 (RV.tmp rfl) (fun w' hs => ⟨rfl, hs.below⟩)
  repeat' (first | refine rn ?_ | (refine zb ?_; intro _ _) | (refine za ?_; intro _ _) | (refine zs ?_; intro _ _))
  refine TL_gsplit_dec rfl rfl (fun g6 => ?_) (fun g6 => ?_)
  · repeat' (first | refine rn ?_ | (refine zb ?_; intro _ _) | (refine za ?_; intro _ _) | (refine zs ?_; intro _ _))
    exact TQ_ret1 Tryz.results5 (RV.tmp rfl) (fun w' hs => ⟨rfl, hs.below⟩)
  repeat' (first | refine rn ?_ | (refine zb ?_; intro _ _) | (refine za ?_; intro _ _) | (refine zs ?_; intro _ _))
  refine TL_gsplit_dec rfl rfl (fun g7 => ?_) (fun g7 => ?_)
  · repeat' (first | refine rn ?_ | (refine zb ?_; intro _ _) | (refine za ?_; intro _ _) | (refine zs ?_; intro _ _))
    exact TQ_ret1 Tryz.results5 (RV.tmp rfl) (fun w' hs => ⟨rfl, hs.below⟩)
  repeat' (first | refine rn ?_ | (refine zb ?_; intro _ _) | (refine za ?_; intro _ _) | (refine zs ?_; intro _ _))
  refine TC_cond_dec rfl (fun g8 => ?_) (fun g8 => ?_)
  · repeat' (first | refine rn ?_ | (refine zb ?_; intro _ _) | (refine za ?_; intro _ _) | (refine zs ?_; intro _ _))
    exact TQ_ret1 Tryz.results5 (RV.tmp rfl) (fun w' hs => ⟨rfl, hs.below⟩)
  have h0 : U.1 = 0 := Classical.not_not.1 g4
  obtain ⟨hro, _, hcp⟩ := hch h0
  rw [if_pos h0] at hRd
  have hend := endR_eq hro
  have hPne : U.2.1 ≠ [] := fun e => by rw [e] at hcp; simp [chP] at hcp; omega
  have hRok := runsM_ok (fun p => userP p day) hcp hPne
  rw [← hRd] at hRok
  obtain ⟨hcR, hcov⟩ := hRok
  have hR60 : R.length ≤ 60 := by omega
  have hok := okTurns_of hcR hend.2.1
  have htl := tus_len R
  repeat' (first | refine rn ?_ | (refine zb ?_; intro _ _) | (refine za ?_; intro _ _) | (refine zs ?_; intro _ _))
  refine TC_loop (σ := Nat × Option Addr × Nat × Hp) (fun q => q.1 ≤ R.length ∧ Row 38 2 encSp q.2.1 q.2.2.1 q.2.2.2 ((tus R).take q.1)) (fun q => [(1, .int .i64 day), (4, .slice da ds.length dc), (5, .int .u32 by_), (9, .pointer (some ⟨b9, 0, none⟩)), (13, .bool true), (14, .pointer (some ⟨b14, 0, none⟩)), (17, .slice uo R.length uc), (19, .slice q.2.1 q.1 q.2.2.1), (92, .slice uo R.length uc), (93, .int .i64 R.length), (94, .int .i64 q.1)]) (fun q => q.2.2.2 ++ (ub ++ [(b14, .cells (encSp s) 25), (b9, .cells (encRo r) 43)])) (fun q => R.length - q.1) (0, none, 0, []) ⟨Nat.zero_le _, Row.nil _ _ _⟩ sb (fun w h => h.sub su) (fun q hq => ?_)
  obtain ⟨j, so, sc, ob⟩ := q
  obtain ⟨hj, hrow⟩ := hq
  dsimp only at hj hrow ⊢
  repeat' (first | refine rn ?_ | (refine zb ?_; intro _ _) | (refine za ?_; intro _ _) | (refine zs ?_; intro _ _))
  refine TC_cond_dec rfl (fun g9 => ?_) (fun g9 => ?_)
  · have hlt : j < R.length := by omega
    obtain ⟨h, hh⟩ : ∃ h, R[j]? = some h := ⟨_, List.getElem?_eq_getElem hlt⟩
    repeat' (first | refine rn ?_ | (refine zb ?_; intro _ _) | (refine za ?_; intro _ _) | (refine zs ?_; intro _ _))
    refine TL_index j rfl rfl rfl (fun w h => hu.sl h (fun p hp => List.mem_append_right _ (List.mem_append_left _ hp))) rfl hlt (Nat.le_refl _) ?_
    refine TL_load_eln (u := h) rfl rfl (fun w h => hu.sl h (fun p hp => List.mem_append_right _ (List.mem_append_left _ hp))) hh rfl ?_
    repeat' (first | refine rn ?_ | (refine zb ?_; intro _ _) | (refine za ?_; intro _ _) | (refine zs ?_; intro _ _))
    rename_i b21 _ vb _
    have htl : ((tus R).take j).length = j := by rw [List.length_take, tus_len]; omega
    have hts := take_snoc (tus_get hh)
    refine TL_append (l := (tus R).take j) (l2 := [h.turn]) (enc := encSp) (G := _) rfl (by rfl) rfl rfl htl.symm rfl rfl hrow (pm_cons (pm_cons pm_here)) (fun w h => Sl.of_blk h (List.Mem.head _) (fun _ _ => rfl) ⟨[], by rfl⟩) (fun u _ => rfl) (by rw [htl]; simp only [List.length_singleton]; omega) (by rw [htl]; simp only [List.length_singleton, maxLen]; omega) (fun so' sc' ob' hrow' => ?_)
    rw [← hts] at hrow' ⊢
    have htl2 : ((tus R).take (j + 1)).length = j + 1 := by rw [List.length_take, tus_len]; omega
    rw [htl2]
    repeat' (first | refine rn ?_ | (refine zb ?_; intro _ _) | (refine za ?_; intro _ _) | (refine zs ?_; intro _ _))
    refine TQ_round (j + 1, so', sc', ob') ⟨hlt, hrow'⟩ (by dsimp only; omega) sb (fun w h => h.sub (List.Sublist.append_left (List.Sublist.cons _ (List.Sublist.cons _ (List.Sublist.refl _))) _))
  have ej : j = R.length := by omega
  subst ej
  have hfull : (tus R).take R.length = tus R := by rw [← tus_len R, List.take_length]
  rw [hfull] at hrow
  repeat' (first | refine rn ?_ | (refine zb ?_; intro _ _) | (refine za ?_; intro _ _) | (refine zs ?_; intro _ _))
  have hord : Ord s (-100000) 100000 := by unfold Ord; omega
  refine TL_callN rfl rfl rfl (fun w h => by
    have := c25 (tus R) so sc s (by rw [tus_len]; exact hR60) hrow.le hok hord w (hrow.sl h (fun p hp => List.mem_append_left _ hp))
    rw [tus_len] at this
    exact this) ?_
  rintro ⟨n, mo, mc, mb⟩ hq
  dsimp only at hq ⊢
  obtain ⟨hmo, hFn, _, hbrk⟩ := hq
  have hnow := pickR_in (s := s) by_ (by omega)
  obtain ⟨now, hnw⟩ : ∃ now, now = pickR s by_ := ⟨_, rfl⟩
  rw [← hnw] at hnow
  obtain ⟨P, hP⟩ : ∃ P, P = U.2.1 := ⟨_, rfl⟩
  rw [← hP] at hcp hPne hRd hcov
  have hlaw := told_law (fun p => userP p day) hcp hPne (s := s) (n := n) (by rw [← hRd, tus_len]; exact hFn) (by rw [← hRd]; exact hbrk) hnow.1 hnow.2
  rw [← hRd] at hlaw
  have hS : -1 ≤ sureO (tus R) s n ∧ sureO (tus R) s n < R.length := by
    rcases sureO_cases (tus R) s n with h | ⟨i, hi, h, _⟩ <;> rw [h] <;> omega
  obtain ⟨S, hSd⟩ : ∃ S, S = sureO (tus R) s n := ⟨_, rfl⟩
  obtain ⟨F, hF⟩ : ∃ F, F = firstO (tus R) s := ⟨_, rfl⟩
  rw [← hSd, ← hF] at hlaw
  rw [← hSd] at hS ⊢
  rw [← hF] at hFn
  repeat' (first | refine rn ?_ | (refine zb ?_; intro _ _) | (refine za ?_; intro _ _) | (refine zs ?_; intro _ _))
  refine TL_gsplit_dec rfl rfl (fun g10 => absurd g10 (by omega)) (fun g10 => ?_)
  repeat' (first | refine rn ?_ | (refine zb ?_; intro _ _) | (refine za ?_; intro _ _) | (refine zs ?_; intro _ _))
  refine TC_cond_dec rfl (fun g11 => absurd g11 (by omega)) (fun g11 => ?_)
  repeat' (first | refine rn ?_ | (refine zb ?_; intro _ _) | (refine za ?_; intro _ _) | (refine zs ?_; intro _ _))
  refine TL_callV rfl rfl rfl (fun w h => c26 s by_ (by omega) hby w) ?_
  rw [← hnw]
  repeat' (first | refine rn ?_ | (refine zb ?_; intro _ _) | (refine za ?_; intro _ _) | (refine zs ?_; intro _ _))
  refine TL_callV rfl rfl rfl (fun w h => c13g r ds da dc day now w (h.sl hr) hrn ⟨h.sl hd.s, fun x hx => h.sl (hd.h x hx), hd.n, hd.hn⟩) ?_
  rw [← hU]
  cases hfd : P.find? (hasB now) with
  | none =>
    have hS1 := hlaw.1 hfd
    subst hS1
    have hat : atM U day now = (0, 0, 2) := by unfold atM; rw [if_neg (not_not_intro h0), ← hP, hfd]
    rw [hat]
    dsimp only
    repeat' (first | refine rn ?_ | (refine zb ?_; intro _ _) | (refine za ?_; intro _ _) | (refine zs ?_; intro _ _))
    exact TQ_ret1 Tryz.results5 (RV.tmp rfl) (fun w' hs => ⟨rfl, hs.below⟩)
  | some p =>
  obtain ⟨q, y, hq, hy1, hy2, hyw, hFq, hqn, hSq⟩ := hlaw.2 p hfd
  have hat : atM U day now = (p.owner, userP p day, 0) := by unfold atM; rw [if_neg (not_not_intro h0), ← hP, hfd]
  rw [hat]
  dsimp only
  obtain ⟨usr, husr⟩ : ∃ u, u = userP p day := ⟨_, rfl⟩
  rw [← husr] at hyw ⊢
  have hml : (mayO (tus R) s n).length = n := mayO_len _ _ _
  repeat' (first | refine rn ?_ | (refine zb ?_; intro _ _) | (refine za ?_; intro _ _) | (refine zs ?_; intro _ _))
  refine TC_loop (σ := Nat × Bool) (fun x => x.1 ≤ n ∧ (x.2 = true ↔ q < F + x.1)) (fun x => [(13, .bool true), (17, .slice uo R.length uc), (19, .slice so R.length sc), (23, .int .i64 S), (25, .int .i64 now), (27, .int .i64 usr), (29, .bool x.2), (146, .slice mo n mc), (147, .int .i64 n), (148, .int .i64 x.1)]) (fun _ => mb ++ (ob ++ (ub ++ [(b14, .cells (encSp s) 25), (b9, .cells (encRo r) 43)]))) (fun x => n - x.1) (0, false) ⟨Nat.zero_le _, ⟨fun h => (by cases h), fun h => (by omega)⟩⟩ sb (fun w h => h.sub (List.Sublist.refl _)) (fun x hx => ?_)
  · obtain ⟨j, b⟩ := x
    obtain ⟨hj, hb⟩ := hx
    dsimp only at hj hb ⊢
    repeat' (first | refine rn ?_ | (refine zb ?_; intro _ _) | (refine za ?_; intro _ _) | (refine zs ?_; intro _ _))
    refine TC_cond_dec rfl (fun g12 => ?_) (fun g12 => ?_)
    · have hlt : j < n := by omega
      have hFl : F + j < R.length := by omega
      have hm1 : (mayO (tus R) s n)[j]? = some ((F + j : Nat) : Int) := by
        unfold mayO
        rw [List.getElem?_map, List.getElem?_range hlt, hF]; rfl
      obtain ⟨x, hx⟩ : ∃ x, R[F + j]? = some x := ⟨_, List.getElem?_eq_getElem hFl⟩
      have htx := tus_get hx
      have hRne : R ≠ [] := fun e => by rw [e] at hFl; simp at hFl
      have hTne : tus R ≠ [] := fun e => by rw [e] at htl; simp at htl; omega
      repeat' (first | refine rn ?_ | (refine zb ?_; intro _ _) | (refine za ?_; intro _ _) | (refine zs ?_; intro _ _))
      refine TL_index j rfl rfl rfl (fun w h => hmo.sl h (fun p hp => List.mem_append_left _ hp)) rfl (by rw [hml]; exact hlt) (Nat.le_of_eq hml) ?_
      refine TL_load_el1 (u := ((F + j : Nat) : Int)) rfl rfl (fun w h => hmo.sl h (fun p hp => List.mem_append_left _ hp)) hm1 rfl ?_
      repeat' (first | refine rn ?_ | (refine zb ?_; intro _ _) | (refine za ?_; intro _ _) | (refine zs ?_; intro _ _))
      refine TC_cond_dec rfl (fun g14 => absurd g14 (by omega)) (fun g14 => ?_)
      cases b with
      | true =>
        have := hb.1 rfl
        repeat' (first | refine rn ?_ | (refine zb ?_; intro _ _) | (refine za ?_; intro _ _) | (refine zs ?_; intro _ _))
        exact TQ_round (j + 1, true) ⟨hlt, ⟨fun _ => by dsimp only; omega, fun _ => rfl⟩⟩ (by dsimp only; omega) sb (fun w h => h)
      | false =>
        have hb' : ¬ q < F + j := fun h => by have := hb.2 h; cases this
        repeat' (first | refine rn ?_ | (refine zb ?_; intro _ _) | (refine za ?_; intro _ _) | (refine zs ?_; intro _ _))
        refine TL_index (F + j) rfl rfl rfl (fun w h => hu.sl h (fun p hp => List.mem_append_right _ (List.mem_append_right _ (List.mem_append_left _ hp)))) rfl hFl (Nat.le_refl _) ?_
        refine TL_guard_yes rfl rfl rfl ?_
        refine TL_fieldAddr_el rfl rfl (fun w h => hu.sl h (fun p hp => List.mem_append_right _ (List.mem_append_right _ (List.mem_append_left _ hp)))) hRne ?_
        refine TL_guard_yes rfl rfl rfl ?_
        refine TL_load_el1 (u := x) rfl rfl (fun w h => hu.sl h (fun p hp => List.mem_append_right _ (List.mem_append_right _ (List.mem_append_left _ hp)))) hx rfl ?_
        repeat' (first | refine rn ?_ | (refine zb ?_; intro _ _) | (refine za ?_; intro _ _) | (refine zs ?_; intro _ _))
        have hne : q < F + (j + 1) → F + j = q ∧ x = y := fun h => by
          have : F + j = q := by omega
          rw [this, hq] at hx; cases hx; exact ⟨this, rfl⟩
        refine TL_gsplit_dec rfl rfl (fun g15 => ?_) (fun g15 => ?_)
        · repeat' (first | refine rn ?_ | (refine zb ?_; intro _ _) | (refine za ?_; intro _ _) | (refine zs ?_; intro _ _))
          refine TL_index (F + j) rfl rfl rfl (fun w h => hrow.sl h (fun p hp => List.mem_append_right _ (List.mem_append_left _ hp))) rfl (by rw [htl]; exact hFl) (Nat.le_of_eq htl) ?_
          refine TL_guard_yes rfl rfl rfl ?_
          refine TL_fieldAddr_el rfl rfl (fun w h => hrow.sl h (fun p hp => List.mem_append_right _ (List.mem_append_left _ hp))) hTne ?_
          refine TL_guard_yes rfl rfl rfl ?_
          refine TL_load_el1 (u := x.turn) rfl rfl (fun w h => hrow.sl h (fun p hp => List.mem_append_right _ (List.mem_append_left _ hp))) htx rfl ?_
          repeat' (first | refine rn ?_ | (refine zb ?_; intro _ _) | (refine za ?_; intro _ _) | (refine zs ?_; intro _ _))
          refine TL_gsplit_dec rfl rfl (fun g16 => ?_) (fun g16 => ?_)
          · repeat' (first | refine rn ?_ | (refine zb ?_; intro _ _) | (refine za ?_; intro _ _) | (refine zs ?_; intro _ _))
            refine TL_index (F + j) rfl rfl rfl (fun w h => hrow.sl h (fun p hp => List.mem_append_right _ (List.mem_append_left _ hp))) rfl (by rw [htl]; exact hFl) (Nat.le_of_eq htl) ?_
            refine TL_guard_yes rfl rfl rfl ?_
            refine TL_fieldAddr_el rfl rfl (fun w h => hrow.sl h (fun p hp => List.mem_append_right _ (List.mem_append_left _ hp))) hTne ?_
            refine TL_guard_yes rfl rfl rfl ?_
            refine TL_load_el1 (u := x.turn) rfl rfl (fun w h => hrow.sl h (fun p hp => List.mem_append_right _ (List.mem_append_left _ hp))) htx rfl ?_
            repeat' (first | refine rn ?_ | (refine zb ?_; intro _ _) | (refine za ?_; intro _ _) | (refine zs ?_; intro _ _))
            rcases Decidable.em (now < x.turn.2) with g17 | g17
            · rw [decide_eq_true g17]
              have := uniq_run hcR hx hq ⟨g16, g17⟩ ⟨hy1, hy2⟩
              repeat' (first | refine rn ?_ | (refine zb ?_; intro _ _) | (refine za ?_; intro _ _) | (refine zs ?_; intro _ _))
              exact TQ_round (j + 1, true) ⟨hlt, ⟨fun _ => by dsimp only; omega, fun _ => rfl⟩⟩ (by dsimp only; omega) sb (fun w h => h)
            · rw [decide_eq_false g17]
              repeat' (first | refine rn ?_ | (refine zb ?_; intro _ _) | (refine za ?_; intro _ _) | (refine zs ?_; intro _ _))
              exact TQ_round (j + 1, false) ⟨hlt, ⟨fun h => (by cases h), fun h => absurd (hne h) (by rintro ⟨_, rfl⟩; omega)⟩⟩ (by dsimp only; omega) sb (fun w h => h)
          · repeat' (first | refine rn ?_ | (refine zb ?_; intro _ _) | (refine za ?_; intro _ _) | (refine zs ?_; intro _ _))
            exact TQ_round (j + 1, false) ⟨hlt, ⟨fun h => (by cases h), fun h => absurd (hne h) (by rintro ⟨_, rfl⟩; omega)⟩⟩ (by dsimp only; omega) sb (fun w h => h)
        · repeat' (first | refine rn ?_ | (refine zb ?_; intro _ _) | (refine za ?_; intro _ _) | (refine zs ?_; intro _ _))
          exact TQ_round (j + 1, false) ⟨hlt, ⟨fun h => (by cases h), fun h => absurd (hne h) (by rintro ⟨_, rfl⟩; omega)⟩⟩ (by dsimp only; omega) sb (fun w h => h)
    repeat' (first | refine rn ?_ | (refine zb ?_; intro _ _) | (refine za ?_; intro _ _) | (refine zs ?_; intro _ _))
    have ejn : j = n := by omega
    have ebt : b = true := hb.2 (by omega)
    subst ebt
    rcases Decidable.em (S = -1) with g18 | g18
    · subst g18
      repeat' (first | refine rn ?_ | (refine zb ?_; intro _ _) | (refine za ?_; intro _ _) | (refine zs ?_; intro _ _))
      exact TQ_ret1 Tryz.results5 (RV.tmp rfl) (fun w' hs => ⟨rfl, hs.below⟩)
    · have eSq : S = (q : Int) := hSq.resolve_left g18
      have hql : q < R.length := (List.getElem?_eq_some_iff.1 hq).1
      have hRne : R ≠ [] := fun e => by rw [e] at hql; simp at hql
      subst eSq
      repeat' (first | refine rn ?_ | (refine zb ?_; intro _ _) | (refine za ?_; intro _ _) | (refine zs ?_; intro _ _))
      refine TL_index q rfl rfl rfl (fun w h => hu.sl h (fun p hp => List.mem_append_right _ (List.mem_append_right _ (List.mem_append_left _ hp)))) rfl hql (Nat.le_refl _) ?_
      refine TL_guard_yes rfl rfl rfl ?_
      refine TL_fieldAddr_el rfl rfl (fun w h => hu.sl h (fun p hp => List.mem_append_right _ (List.mem_append_right _ (List.mem_append_left _ hp)))) hRne ?_
      refine TL_guard_yes rfl rfl rfl ?_
      refine TL_load_el1 (u := y) rfl rfl (fun w h => hu.sl h (fun p hp => List.mem_append_right _ (List.mem_append_right _ (List.mem_append_left _ hp)))) hq rfl ?_
      rw [hyw]
      repeat' (first | refine rn ?_ | (refine zb ?_; intro _ _) | (refine za ?_; intro _ _) | (refine zs ?_; intro _ _))
      exact TQ_ret1 Tryz.results5 (RV.tmp rfl) (fun w' hs => ⟨by rw [decide_eq_true (rfl : usr = usr)], hs.below⟩)
end Go.Proofs.YtkpkebpofpcmaaaGreatDoor
