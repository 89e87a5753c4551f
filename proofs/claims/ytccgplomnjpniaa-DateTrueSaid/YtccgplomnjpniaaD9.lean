/- Walks: date.need, times, less, sum, season. -/
import Derived.Test.YtccgplomnjpniaaDS
import Derived.Test.YtccgplomnjpniaaEngC
namespace Go.Proofs.Ytccgplomnjpniaa
open Go Go.Eng Go.RowKit Go.Proofs
set_option maxHeartbeats 1000000
set_option maxRecDepth 10000
attribute [local irreducible] TL TC TQ

def stopV (i e : Int) : Value := .iface 121 (.agg #[.int .i64 i, .int .i64 e])
def Small (a : Int) : Prop := -1099511627776 ≤ a ∧ a ≤ 1099511627776

theorem c91 (so : Bool) (i e : Int) (w : World) : Calls Try.prog 91 #[.bool so, .int .i64 i, .int .i64 e] w (EndV w (if so then .ok (.tuple #[]) else .error (stopV i e))) := by
  refine enter (args := [.bool so, .int .i64 i, .int .i64 e]) Try.func91 rfl Try.ntmps91 rfl (SH.refl _) ?_
  repeat' (first | refine rn ?_ | (apply TL_box; exact rfl; exact rfl; exact rfl; intro _ _) | (apply TL_alloc; exact rfl; intro _ _) | (apply TL_buildSlice; exact rfl; exact rfl; exact rfl; exact rfl; exact rfl; intro _ _))
  refine TC_cond rfl (fun h1 => ?_) (fun h1 => ?_)
  · repeat' (first | refine rn ?_ | (apply TL_box; exact rfl; exact rfl; exact rfl; intro _ _) | (apply TL_alloc; exact rfl; intro _ _) | (apply TL_buildSlice; exact rfl; exact rfl; exact rfl; exact rfl; exact rfl; intro _ _))
    refine TL_makeInterface rfl rfl Try.underlying121 ?_
    refine TL_panic rfl rfl ?_
    have : so = false := by simpa using h1
    subst this
    exact TQ_panic (fun w' hs => ⟨rfl, hs.below⟩)
  · repeat' (first | refine rn ?_ | (apply TL_box; exact rfl; exact rfl; exact rfl; intro _ _) | (apply TL_alloc; exact rfl; intro _ _) | (apply TL_buildSlice; exact rfl; exact rfl; exact rfl; exact rfl; exact rfl; intro _ _))
    have : so = true := by simpa using h1
    subst this
    exact TQ_end0 Try.results91 (fun w' hs => ⟨rfl, hs.below⟩)

theorem c92 (s : Sp) (n : Int) (w : World) (h1 : Small (n * s.1)) (h2 : Small (n * s.2)) : Calls Try.prog 92 #[.agg (encSp s).toArray, .int .i64 n] w (RetV w (.agg (encSp (n * s.1, n * s.2)).toArray)) := by
  simp only [Small] at h1 h2
  refine enter (args := [.agg (encSp s).toArray, .int .i64 n]) Try.func92 rfl Try.ntmps92 rfl (SH.refl _) ?_
  repeat' (first | refine rn ?_ | (apply TL_box; exact rfl; exact rfl; exact rfl; intro _ _) | (apply TL_alloc; exact rfl; intro _ _) | (apply TL_buildSlice; exact rfl; exact rfl; exact rfl; exact rfl; exact rfl; intro _ _))
  exact TQ_ret1 Try.results92 (RV.celln rfl mm (by rfl)) (fun w' hs => ⟨rfl, hs.below⟩)

theorem c93 (a b : Sp) (w : World) (h1 : Small a.1) (h2 : Small a.2) (h3 : Small b.1) (h4 : Small b.2) : Calls Try.prog 93 #[.agg (encSp a).toArray, .agg (encSp b).toArray] w (RetV w (.agg (encSp (a.1 - b.2, a.2 - b.1)).toArray)) := by
  simp only [Small] at h1 h2 h3 h4
  refine enter (args := [.agg (encSp a).toArray, .agg (encSp b).toArray]) Try.func93 rfl Try.ntmps93 rfl (SH.refl _) ?_
  repeat' (first | refine rn ?_ | (apply TL_box; exact rfl; exact rfl; exact rfl; intro _ _) | (apply TL_alloc; exact rfl; intro _ _) | (apply TL_buildSlice; exact rfl; exact rfl; exact rfl; exact rfl; exact rfl; intro _ _))
  exact TQ_ret1 Try.results93 (RV.celln rfl mm (by rfl)) (fun w' hs => ⟨rfl, hs.below⟩)

def sumR (l : List Sp) : Sp := l.foldl (fun s x => (s.1 + x.1, s.2 + x.2)) (0, 0)
theorem c82 (l : List Sp) (ao : Option Addr) (c : Nat) (w : World) (ha : Sl w 2 encSp ao l) (hn : l.length ≤ 1000) (hb : ∀ x ∈ l, Small x.1 ∧ Small x.2) : Calls Try.prog 82 #[.slice ao l.length c] w (RetV w (.agg (encSp (sumR l)).toArray)) := by
  refine enter (args := [.slice ao l.length c]) Try.func82 rfl Try.ntmps82 rfl (SH.refl _) ?_
  repeat' (first | refine rn ?_ | (apply TL_box; exact rfl; exact rfl; exact rfl; intro _ _) | (apply TL_alloc; exact rfl; intro _ _) | (apply TL_buildSlice; exact rfl; exact rfl; exact rfl; exact rfl; exact rfl; intro _ _))
  rename_i b2 _ b3 _
  refine TC_loop (σ := Nat × Sp) (fun q => q.1 ≤ l.length ∧ q.2 = sumR (l.take q.1) ∧ (-(1099511627776 * (q.1 : Int)) ≤ q.2.1 ∧ q.2.1 ≤ 1099511627776 * (q.1 : Int)) ∧ (-(1099511627776 * (q.1 : Int)) ≤ q.2.2 ∧ q.2.2 ≤ 1099511627776 * (q.1 : Int)))
    (fun q => [(2, .pointer (some ⟨b2, 0, none⟩)), (3, .pointer (some ⟨b3, 0, none⟩)), (6, .slice ao l.length c), (7, .int .i64 l.length), (8, .int .i64 q.1)])
    (fun q => [(b3, .cells (encSp q.2) 23), (b2, .cells [.int .i64 0, .int .i64 0] 23)]) (fun q => l.length - q.1) (0, (0, 0)) ⟨Nat.zero_le _, rfl, by simp, by simp⟩ sb (fun w h => h) ?_
  rintro ⟨k, s⟩ ⟨hk, hs, hb1, hb2⟩
  dsimp only at hk hs hb1 hb2 ⊢
  repeat' (first | refine rn ?_ | (apply TL_box; exact rfl; exact rfl; exact rfl; intro _ _) | (apply TL_alloc; exact rfl; intro _ _) | (apply TL_buildSlice; exact rfl; exact rfl; exact rfl; exact rfl; exact rfl; intro _ _))
  refine TC_cond_dec rfl (fun h1 => ?_) (fun h1 => ?_)
  · have hlt : k < l.length := by omega
    obtain ⟨x, hx⟩ : ∃ x, l[k]? = some x := ⟨_, List.getElem?_eq_getElem hlt⟩
    have hbx := hb x (List.mem_of_getElem? hx)
    simp only [Small] at hbx
    repeat' (first | refine rn ?_ | (apply TL_box; exact rfl; exact rfl; exact rfl; intro _ _) | (apply TL_alloc; exact rfl; intro _ _) | (apply TL_buildSlice; exact rfl; exact rfl; exact rfl; exact rfl; exact rfl; intro _ _))
    refine TL_index k rfl rfl rfl (fun w h => h.sl ha) rfl hlt (Nat.le_refl _) ?_
    refine TL_load_eln rfl rfl (fun w h => h.sl ha) hx rfl ?_
    repeat' (first | refine rn ?_ | (apply TL_box; exact rfl; exact rfl; exact rfl; intro _ _) | (apply TL_alloc; exact rfl; intro _ _) | (apply TL_buildSlice; exact rfl; exact rfl; exact rfl; exact rfl; exact rfl; intro _ _))
    refine TQ_round (k + 1, (s.1 + x.1, s.2 + x.2)) ⟨by dsimp only; omega, ?_, by dsimp only; omega, by dsimp only; omega⟩ (by dsimp only; omega) sb (fun w h => h.sub (by repeat (first | exact List.Sublist.refl _ | apply List.Sublist.cons)))
    dsimp only
    rw [List.take_add_one, hx, sumR, List.foldl_append]
    rw [hs]; rfl
  · have hkl : k = l.length := by omega
    subst hkl
    rw [List.take_length] at hs
    subst hs
    repeat' (first | refine rn ?_ | (apply TL_box; exact rfl; exact rfl; exact rfl; intro _ _) | (apply TL_alloc; exact rfl; intro _ _) | (apply TL_buildSlice; exact rfl; exact rfl; exact rfl; exact rfl; exact rfl; intro _ _))
    exact TQ_ret1 Try.results82 (RV.celln rfl mm (by rfl)) (fun w' hs => ⟨rfl, hs.below⟩)

theorem c82_3 (a b e : Sp) (ao : Option Addr) (c : Nat) (w : World) (ha : Sl w 2 encSp ao [a, b, e]) (h1 : Small a.1 ∧ Small a.2) (h2 : Small b.1 ∧ Small b.2) (h3 : Small e.1 ∧ Small e.2) :
    Calls Try.prog 82 #[.slice ao 3 c] w (RetV w (.agg (encSp (a.1 + b.1 + e.1, a.2 + b.2 + e.2)).toArray)) := by
  have h := c82 [a, b, e] ao c w ha (by simp) (by simp [h1, h2, h3])
  have e : sumR [a, b, e] = (a.1 + b.1 + e.1, a.2 + b.2 + e.2) := by simp [sumR]
  rw [e] at h; exact h
theorem c82_2 (a b : Sp) (ao : Option Addr) (c : Nat) (w : World) (ha : Sl w 2 encSp ao [a, b]) (h1 : Small a.1 ∧ Small a.2) (h2 : Small b.1 ∧ Small b.2) :
    Calls Try.prog 82 #[.slice ao 2 c] w (RetV w (.agg (encSp (a.1 + b.1, a.2 + b.2)).toArray)) := by
  have h := c82 [a, b] ao c w ha (by simp) (by simp [h1, h2])
  have e : sumR [a, b] = (a.1 + b.1, a.2 + b.2) := by simp [sumR]
  rw [e] at h; exact h
end Go.Proofs.Ytccgplomnjpniaa
