/- Reading arguments: what a call is handed, as plain data. It speaks of no program. -/
import Derived.Test.YtkpkebpofpcmaaaGreatDoorEngA
import Derived.ChangeShapes
import Derived.WideShapes
import Derived.ChangeSlices
namespace Go.Eng
open Go Go.RowKit

theorem mapM_opt {α β : Type} {f : α → Option β} : ∀ {l : List α} {ys : List β}, l.mapM f = some ys → ys.length = l.length ∧ ∀ (i : Nat) (x : α), l[i]? = some x → ∃ y, f x = some y ∧ ys[i]? = some y := by
  intro l
  induction l with
  | nil => intro ys h; simp at h; subst h; exact ⟨rfl, fun i x h => by simp at h⟩
  | cons a l ih =>
    intro ys h
    rw [List.mapM_cons] at h
    cases hf : f a with
    | none => simp [hf] at h
    | some b =>
      cases hl : l.mapM f with
      | none => simp [hf, hl] at h
      | some bs =>
        simp [hf, hl] at h
        subst h
        obtain ⟨h1, h2⟩ := ih hl
        refine ⟨by simp [h1], fun i x hx => ?_⟩
        cases i with
        | zero => simp at hx; subst hx; exact ⟨b, hf, rfl⟩
        | succ i => simpa using h2 i x (by simpa using hx)

section
variable {P : Program} {Hh : Type} {encH : TypeId × Value → Hh} {w : World} {base : Nat} {spare : Nat → Bool} {held : Bool} {fuel : Nat} {t e : TypeId} {cs : List Value} {x : DataW Hh × List MemPlace}

/-- What data of type t reads as: 'enc a', for some a. -/
class RdT (P : Program) (t : TypeId) {α : Type} (enc : α → List Value) (k : outParam Nat) : Prop where
  size : P.cellsOf t = k
  len : ∀ a, (enc a).length = k
  rd : ∀ {Hh : Type} {encH : TypeId × Value → Hh} {w : World} {base : Nat} {spare : Nat → Bool} {held : Bool} {fuel : Nat} {cs : List Value} {x : DataW Hh × List MemPlace},
    DataW.trod encH P w base spare held fuel t cs = some x → ∃ a, cs = enc a

theorem trod_int {k : IntKind} (ht : P.underlying t = some (.int k)) (h : DataW.trod encH P w base spare held fuel t cs = some x) : ∃ n, cs = [.int k n] ∧ (Lit.int k n).wf = true := by
  cases fuel with
  | zero => simp [DataW.trod] at h
  | succ fuel =>
    unfold DataW.trod at h
    rw [ht] at h
    simp only at h
    split at h <;> first | (cases h; done) | skip
    all_goals try (simp at *; done)
    all_goals (rename_i heq; simp at heq; try (obtain rfl := heq))
    all_goals (split at h; (· rename_i hk; obtain ⟨rfl, hw⟩ := hk; exact ⟨_, rfl, hw⟩); (· cases h))
theorem trod_struct {fs : Array Field} (ht : P.underlying t = some (.struct fs)) (h : DataW.trod encH P w base spare held fuel t cs = some x) :
    cs.length = P.cellsOf t ∧ ∃ fuel', ∀ f ∈ fs.toList, ∃ y, DataW.trod encH P w base spare held fuel' f.type ((cs.drop f.offset).take (P.cellsOf f.type)) = some y := by
  cases fuel with
  | zero => simp [DataW.trod] at h
  | succ fuel =>
    unfold DataW.trod at h
    rw [ht] at h
    simp only at h
    split at h
    · rename_i hl
      refine ⟨hl, fuel, fun f hf => ?_⟩
      cases hm : fs.toList.mapM fun f => DataW.trod encH P w base spare held fuel f.type ((cs.drop f.offset).take (P.cellsOf f.type)) with
      | none => rw [hm] at h; simp at h
      | some ys =>
        obtain ⟨i, hi⟩ := List.getElem?_of_mem hf
        obtain ⟨y, hy, _⟩ := (mapM_opt hm).2 i f hi
        exact ⟨y, hy⟩
    · cases h
theorem trod_slice_form (ht : P.underlying t = some (.slice e)) (h : DataW.trod encH P w base spare held fuel t cs = some x) : ∃ ao len cap, cs = [.slice ao len cap] := by
  cases fuel with
  | zero => simp [DataW.trod] at h
  | succ fuel =>
    unfold DataW.trod at h
    rw [ht] at h
    split at h <;> first | (cases h; done) | skip
    all_goals first | (exact ⟨_, _, _, rfl⟩) | (simp at *; done)
/-- A slice that came in, as plain data. -/
theorem trod_slice {α : Type} {enc : α → List Value} {k : Nat} {ao : Option Addr} {len cap : Nat} [he : RdT P e enc k] (hk : 0 < k) (ht : P.underlying t = some (.slice e)) (h : DataW.trod encH P w base spare held fuel t [.slice ao len cap] = some x) :
    len ≤ cap ∧ cap ≤ maxLen ∧ (ao = none → cap = 0) ∧ ∃ l : List α, l.length = len ∧ Sl w k enc ao l := by
  cases fuel with
  | zero => simp [DataW.trod] at h
  | succ fuel =>
    unfold DataW.trod at h
    rw [ht] at h
    cases ao with
    | none =>
      by_cases h0 : len = 0 ∧ cap = 0
      · obtain ⟨rfl, rfl⟩ := h0
        exact ⟨Nat.le_refl _, Nat.zero_le _, fun _ => rfl, [], rfl, Sl.nil _ _ _ _⟩
      · exfalso
        split at h <;> simp_all
    | some a =>
      simp only at h
      split at h
      · rename_i hc
        refine ⟨hc.2.1, hc.2.2, (fun h => by cases h), ?_⟩
        cases hm : (List.range len).mapM fun i => (w.cells? base (a.add (i * P.cellsOf e)) (P.cellsOf e)).bind (DataW.trod encH P w base spare held fuel e) with
        | none => rw [hm] at h; simp at h
        | some ys =>
          have hall : ∀ i, i < len → ∃ u : α, ∃ cs', w.cells? base (a.add (i * k)) k = some cs' ∧ cs' = enc u := fun i hi => by
            obtain ⟨y, hy, _⟩ := (mapM_opt hm).2 i i (by simp [hi])
            rw [he.size] at hy
            cases hcs : w.cells? base (a.add (i * k)) k with
            | none => rw [hcs] at hy; simp at hy
            | some cs' =>
              rw [hcs] at hy
              obtain ⟨u, hu⟩ := he.rd hy
              exact ⟨u, cs', rfl, hu⟩
          have hcell : ∀ i, i < len → ∀ u : α, w.cells? base (a.add (i * k)) k = some (enc u) → ∀ f v, (enc u)[f]? = some v → w.cell? ((a.add (i * k)).add f) = some v := fun i hi u hu f v hv => by
            unfold World.cells? at hu
            split at hu
            · have hf : f < k := by rw [← he.len u]; exact (List.getElem?_eq_some_iff.1 hv).1
              obtain ⟨y, hy, hz⟩ := (mapM_opt hu).2 f f (by simp [hf])
              rw [hv] at hz; cases hz; exact hy
            · cases hu
          have hlist : ∀ n, n ≤ len → ∃ l : List α, l.length = n ∧ ∀ i u, l[i]? = some u → w.cells? base (a.add (i * k)) k = some (enc u) := by
            intro n
            induction n with
            | zero => intro _; exact ⟨[], rfl, fun i u h => by simp at h⟩
            | succ n ih =>
              intro hn
              obtain ⟨l, hl, hL⟩ := ih (by omega)
              obtain ⟨u, cs', h1, rfl⟩ := hall n (by omega)
              refine ⟨l ++ [u], by simp [hl], fun i v hv => ?_⟩
              rcases Nat.lt_trichotomy i l.length with h | h | h
              · rw [List.getElem?_append_left h] at hv; exact hL i v hv
              · subst h; simp at hv; subst hv; rw [hl]; exact h1
              · rw [List.getElem?_eq_none (by simp; omega)] at hv; cases hv
          obtain ⟨l, hl, hL⟩ := hlist len (Nat.le_refl _)
          have hspot : l ≠ [] → a.spot = none := fun hne => by
            have hpos : 0 < l.length := List.length_pos_iff.2 hne
            have h1 := hL 0 l[0] (by simp [hpos])
            have h2 : 0 < (enc l[0]).length := by rw [he.len]; exact hk
            have := hcell 0 (by omega) l[0] h1 0 _ (List.getElem?_eq_getElem h2)
            simp only [Nat.zero_mul, Addr.add, if_true] at this
            unfold World.cell? at this
            split at this
            · split at this
              · cases this
              · rename_i hs; cases hsp : a.spot with
                | none => rfl
                | some _ => simp [hsp] at hs
            · cases this
          refine ⟨l, hl, fun u _ => he.len u, fun hne => ⟨a.block, a.off, by rw [← hspot hne]⟩, fun i u hu f v hv => ?_⟩
          have hne : l ≠ [] := by intro h; simp [h] at hu
          have hi : i < len := by rw [← hl]; exact (List.getElem?_eq_some_iff.1 hu).1
          have := hcell i hi u (hL i u hu) f v hv
          have hs := hspot hne
          have ea : a = ⟨a.block, a.off, none⟩ := by rw [← hs]
          rw [ea] at this
          rw [add_plain', add_plain'] at this
          show w.cell? ⟨a.block, a.off + (i * k + f), none⟩ = some v
          rw [← Nat.add_assoc]; exact this
      · cases h
end
end Go.Eng
/- Reading arguments, second part: truths, arrays. -/
namespace Go.Eng
open Go Go.RowKit
section
variable {P : Program} {Hh : Type} {encH : TypeId × Value → Hh} {w : World} {base : Nat} {spare : Nat → Bool} {held : Bool} {fuel : Nat} {t e : TypeId} {cs : List Value} {x : DataW Hh × List MemPlace}
theorem cons1 {n : Nat} {l : List Value} (h : l.length = n + 1) : ∃ x l', l = x :: l' ∧ l'.length = n := by
  cases l with
  | nil => cases h
  | cons x l => exact ⟨x, l, rfl, by simpa using h⟩
end
end Go.Eng
