/- Walks of the package channel: uses, and which canals are dry. -/
import Derived.Test.YtkpkebpofpcmaaaGreatDoorC3
namespace Go.Proofs.YtkpkebpofpcmaaaGreatDoor
open Go Go.Eng Go.RowKit Go.Proofs
set_option maxHeartbeats 4000000
set_option maxRecDepth 10000
attribute [local irreducible] TL TC TQ

/-- Uses follow one another. -/
def rightP (n : Nt) : Int → List Us → Prop
  | _, [] => True
  | last, u :: l => In u.field 0 ((n.fields.length : Int) - 1) ∧ last ≤ u.turn.1 ∧ u.turn.1 < u.turn.2 ∧ u.turn.2 ≤ n.days * 1440 ∧ rightP n u.turn.2 l
theorem rightP_get {n : Nt} : ∀ {l : List Us} {last : Int} {i : Nat} {u : Us}, rightP n last l → l[i]? = some u → In u.field 0 ((n.fields.length : Int) - 1) ∧ last ≤ u.turn.1 ∧ u.turn.1 < u.turn.2 ∧ u.turn.2 ≤ n.days * 1440
  | x :: l, last, 0, u, h, hu => by simp at hu; subst hu; exact ⟨h.1, h.2.1, h.2.2.1, h.2.2.2.1⟩
  | x :: l, last, i + 1, u, h, hu => by
    obtain ⟨h1, h2, h3, h4⟩ := rightP_get (i := i) h.2.2.2.2 (by simpa using hu)
    have a1 := h.2.1; have a2 := h.2.2.1
    exact ⟨h1, by omega, h3, h4⟩
def lastU (l : List Us) (k : Nat) : Int := if k = 0 then 0 else match l[k - 1]? with | some u => u.turn.2 | none => 0
theorem rightP_last {n : Nt} : ∀ {l : List Us} {last : Int} {i : Nat} {u : Us}, rightP n last l → l[i]? = some u → (∀ v, l[i - 1]? = some v → 0 < i → v.turn.2 ≤ u.turn.1)
  | x :: l, last, 0, u, _, _, v, _, h => by omega
  | x :: l, last, 1, u, h, hu, v, hv, _ => by
    simp at hv; subst hv
    cases l with
    | nil => simp at hu
    | cons y l => simp at hu; subst hu; exact h.2.2.2.2.2.1
  | x :: l, last, i + 2, u, h, hu, v, hv, _ => rightP_last (i := i + 1) h.2.2.2.2 (by simpa using hu) v (by simpa using hv) (by omega)
theorem c50t (n : Nt) (hn : OkNt n) (l : List Int) (ao : Option Addr) (c : Nat) (hl : Small l.length) (w : World) (ha : Sl w 1 encI ao l) (h : ∀ x ∈ l, In x 0 ((n.fields.length : Int) - 1)) : Calls Tryz.prog 50 #[.agg (encNt n).toArray, .slice ao l.length c] w (RetV w (.bool true)) := by
  have := c50 n hn l ao c hl w ha
  rw [decide_eq_true h] at this
  exact this
theorem c58 (n : Nt) (hn : OkNt n) (l : List Us) (ao : Option Addr) (c : Nat) (h60 : l.length ≤ 60) (hr : rightP n 0 l) (w : World) (hl : Sl w 3 encUs ao l) : Calls Tryz.prog 58 #[.agg (encNt n).toArray, .slice ao l.length c] w (RetV w (.bool true)) := by
  refine enter (args := [.agg (encNt n).toArray, .slice ao l.length c]) Tryz.func58 rfl Tryz.ntmps58 rfl (SH.refl _) ?_
  repeat' (first | refine rn ?_ | (refine zb ?_; intro _ _) | (refine za ?_; intro _ _) | (refine zs ?_; intro _ _))
  rename_i b2 _
  refine TC_loop (σ := Nat) (fun k => k ≤ l.length) (fun k => [(1, .slice ao l.length c), (2, .pointer (some ⟨b2, 0, none⟩)), (5, .int .i64 (lastU l k)), (8, .slice ao l.length c), (9, .int .i64 l.length), (10, .int .i64 k)]) (fun k => [(b2, .cells (encNt n) 128)]) (fun k => l.length - k) 0 (Nat.zero_le _) sb (fun w h => h) (fun k hk => ?_)
  repeat' (first | refine rn ?_ | (refine zb ?_; intro _ _) | (refine za ?_; intro _ _) | (refine zs ?_; intro _ _))
  refine TC_cond_dec rfl (fun g1 => ?_) (fun g1 => ?_)
  · have hlt : k < l.length := by omega
    obtain ⟨u, hu⟩ : ∃ x, l[k]? = some x := ⟨_, List.getElem?_eq_getElem hlt⟩
    obtain ⟨q1, q2, q3, q4⟩ := rightP_get hr hu
    have q5 : lastU l k ≤ u.turn.1 := by
      unfold lastU
      by_cases h0 : k = 0
      · rw [if_pos h0]; exact q2
      · rw [if_neg h0]
        cases hv : l[k - 1]? with
        | none => exact q2
        | some v => exact rightP_last hr hu v hv (by omega)
    have q6 : lastU l (k + 1) = u.turn.2 := by
      unfold lastU
      rw [if_neg (by omega), Nat.add_sub_cancel, hu]
    repeat' (first | refine rn ?_ | (refine zb ?_; intro _ _) | (refine za ?_; intro _ _) | (refine zs ?_; intro _ _))
    refine TL_index k rfl rfl rfl (fun w h => h.sl hl) rfl hlt (Nat.le_refl _) ?_
    refine TL_load_eln (u := u) rfl rfl (fun w h => h.sl hl) hu rfl ?_
    repeat' (first | refine rn ?_ | (refine zb ?_; intro _ _) | (refine za ?_; intro _ _) | (refine zs ?_; intro _ _))
    rename_i b7 _
    apply TC_draw 30; kernel_rfl; exact Tryz.mixed
    · iterate 3 (refine' pv ?_; rotate_left)
      (refine' PG.rel ((fun v h => ∃ b, v = .slice (some ⟨b, 0, none⟩) 1 1 ∧ h = [(b, .cells (encI u.field) 3)])) rfl rfl (by intro _X; apply TL_buildSlice; exact rfl; exact rfl; exact rfl; exact rfl; exact rfl; intro b _; exact TL_nil (TQ_QR (h := [(b, _)]) rfl ⟨b, rfl, rfl⟩ (fun _ h => h))) ?_; rotate_left)
      (refine' PG.val rfl rfl (by rintro _ _ ⟨vb, rfl, rfl⟩ _X; refine TL_callV rfl rfl rfl (fun w h => c50t n hn [u.field] _ 1 (by simp [Small]) w (Sl.of_blk h (List.Mem.head _) (fun _ _ => rfl) ⟨[], rfl⟩) (fun x hx => by rw [List.mem_singleton.1 hx]; exact q1)) ?_; exact qe) ?_; rotate_left)
      iterate 2 (refine' pv ?_; rotate_left)
      iterate 4 (refine' pg ?_; rotate_left)
      (refine' PG.val rfl rfl (by intro _X; (refine TL_guard_yes rfl rfl rfl ?_); refine TL_lss_f rfl rfl rfl (by omega) ?_; exact qe) ?_; rotate_left)
      iterate 2 (refine' pv ?_; rotate_left)
      iterate 6 (refine' pg ?_; rotate_left)
      (refine' PG.val rfl rfl (by intro _X; (refine TL_guard_yes rfl rfl rfl ?_); refine TL_leq_f rfl rfl rfl (by omega) ?_; exact qe) ?_; rotate_left)
      iterate 2 (refine' pv ?_; rotate_left)
      iterate 4 (refine' pg ?_; rotate_left)
      (refine' PG.val rfl rfl (by intro _X; (refine TL_guard_yes rfl rfl rfl ?_); refine TL_callV rfl rfl rfl (fun w h => c54 n hn w) ?_; exact qe) ?_; rotate_left)
      (refine' PG.val rfl rfl (by intro _X; (refine TL_guard_yes rfl rfl rfl ?_); refine TL_gtr_f rfl rfl rfl (by omega) ?_; exact qe) ?_; rotate_left)
      (refine' pv ?_; rotate_left)
      exact PG.nil
    rintro _ _ ⟨vb, rfl, rfl⟩
    change TL _ _ _ _ _ _ _ _ _ _ _
    repeat' (first | refine rn ?_ | (refine zb ?_; intro _ _) | (refine za ?_; intro _ _) | (refine zs ?_; intro _ _))
    refine TQ_round (k + 1) (by omega) (by omega) (by rw [q6]; exact sb) (fun w h => h.sub (List.Sublist.cons _ (List.Sublist.cons _ (List.Sublist.refl _))))
  · repeat' (first | refine rn ?_ | (refine zb ?_; intro _ _) | (refine za ?_; intro _ _) | (refine zs ?_; intro _ _))
    refine TQ_ret1 Tryz.results58 (RV.tmp rfl) (fun w' hs => ⟨by rw [decide_eq_true (by omega)], hs.below⟩)
end Go.Proofs.YtkpkebpofpcmaaaGreatDoor
