/- Walks: choices. -/
import Derived.Test.YtoolblbdmmiahaaL21
import Derived.Test.YtoolblbdmmiahaaEngX
namespace Go.Eng
open Go Go.RowKit
section
variable {r : Option Nat} {P : Program} {Q : Exit → Act → World → Prop} {N : Nat} {D : List Deferred} {B : Nat} {w0 : World} {L : Env} {H : Hp} {ops : Array Oper} {rest : List Oper}
variable {d : Nat} {ty : TypeId} {pos : String} {aft : Array Edge}
theorem TL_conv_eq {s e : TypeId} {x : Operand} {k1 k2 : IntKind} {n m : Int} (hd : Nat.blt d N = true) [hs : IntP P s k1] [he : IntP P e k2] (hx : ev L x = some (.int k1 n)) (hw : k2.wrap n = m)
    (k : TL r P Q N D B w0 ((d, .int k2 m) :: L) H ops rest) : TL r P Q N D B w0 L H ops (⟨some d, .convert s e x, ty, pos, aft, none⟩ :: rest) :=
  TL_convert hd hx (by rw [hw]; exact k)
end
end Go.Eng
namespace Go.Proofs.Ytoolblbdmmiahaa
open Go Go.Eng Go.RowKit Go.Proofs
set_option maxHeartbeats 4000000
set_option maxRecDepth 10000
attribute [local irreducible] TL TC TQ

theorem wrap_i64_in {n : Int} (h0 : 0 ≤ n) (h : n ≤ 9223372036854775807) : IntKind.i64.wrap n = n := wrap_i64_of ⟨by omega, h⟩
theorem wrap_u32_uR (n : Int) : IntKind.u32.wrap n = uR n := rfl
theorem uR_rg (n : Int) : 0 ≤ uR n ∧ uR n < 4294967296 := ⟨Int.emod_nonneg _ (by omega), Int.emod_lt_of_pos _ (by omega)⟩
theorem c64 (l : List Int) (i : Int) (hi : 0 ≤ i ∧ i ≤ 1000000) (ao : Option Addr) (c : Nat) (hl : l.length ≤ 9223372036854775807) (w : World) (ha : Sl w 1 encI ao l) :
    Calls Try.prog 64 #[.slice ao l.length c, .int .i64 i] w (RetV w (.int .i64 (atN l i))) := by
  refine enter (args := [.slice ao l.length c, .int .i64 i]) Try.func64 rfl Try.ntmps64 rfl (SH.refl _) ?_
  repeat' (first | refine rn ?_ | (apply TL_box; exact rfl; exact rfl; exact rfl; intro _ _) | (apply TL_alloc; exact rfl; intro _ _) | (apply TL_buildSlice; exact rfl; exact rfl; exact rfl; exact rfl; exact rfl; intro _ _))
  refine TC_cond_dec rfl (fun h0 => ?_) (fun h0 => ?_)
  · have e : atN l i = 0 := by unfold atN; rw [if_pos (by omega)]
    rw [e]
    repeat' (first | refine rn ?_ | (apply TL_box; exact rfl; exact rfl; exact rfl; intro _ _) | (apply TL_alloc; exact rfl; intro _ _) | (apply TL_buildSlice; exact rfl; exact rfl; exact rfl; exact rfl; exact rfl; intro _ _))
    exact TQ_ret1 Try.results64 (RV.tmp rfl) (fun w' hs => ⟨rfl, hs.below⟩)
  · have hlt : i.toNat % l.length < l.length := Nat.mod_lt _ (by omega)
    obtain ⟨x, hx⟩ : ∃ x, l[i.toNat % l.length]? = some x := ⟨_, List.getElem?_eq_getElem hlt⟩
    have e : atN l i = x := by unfold atN; rw [if_neg (by omega), List.getD_eq_getElem?_getD, hx, Option.getD_some]
    have em : i % (l.length : Int) = ((i.toNat % l.length : Nat) : Int) := by
      rw [Int.natCast_emod, Int.toNat_of_nonneg hi.1]
    rw [e]
    repeat' (first | refine rn ?_ | (apply TL_box; exact rfl; exact rfl; exact rfl; intro _ _) | (apply TL_alloc; exact rfl; intro _ _) | (apply TL_buildSlice; exact rfl; exact rfl; exact rfl; exact rfl; exact rfl; intro _ _))
    refine TL_index (i.toNat % l.length) rfl rfl rfl (fun w h => h.sl ha) em hlt (Nat.le_refl _) ?_
    refine TL_load_el1 (u := x) rfl rfl (fun w h => h.sl ha) hx rfl ?_
    repeat' (first | refine rn ?_ | (apply TL_box; exact rfl; exact rfl; exact rfl; intro _ _) | (apply TL_alloc; exact rfl; intro _ _) | (apply TL_buildSlice; exact rfl; exact rfl; exact rfl; exact rfl; exact rfl; intro _ _))
    exact TQ_ret1 Try.results64 (RV.tmp rfl) (fun w' hs => ⟨rfl, hs.below⟩)
theorem c38 (n : Int) (l : List Int) (i : Int) (hn : 0 ≤ n ∧ n ≤ 1000000000) (hi : 0 ≤ i ∧ i ≤ 1000000) (ao : Option Addr) (c : Nat) (hl : l.length ≤ 9223372036854775807) (w : World) (ha : Sl w 1 encI ao l) :
    Calls Try.prog 38 #[.int .i64 n, .slice ao l.length c, .int .i64 i] w (RetV w (.int .i64 (partN n l i))) := by
  have hu := uR_rg (atN l i)
  refine enter (args := [.int .i64 n, .slice ao l.length c, .int .i64 i]) Try.func38 rfl Try.ntmps38 rfl (SH.refl _) ?_
  repeat' (first | refine rn ?_ | (apply TL_box; exact rfl; exact rfl; exact rfl; intro _ _) | (apply TL_alloc; exact rfl; intro _ _) | (apply TL_buildSlice; exact rfl; exact rfl; exact rfl; exact rfl; exact rfl; intro _ _))
  refine TL_callV rfl rfl rfl (fun w h => c64 l i hi ao c hl w (h.sl ha)) ?_
  refine TL_conv_eq rfl rfl (wrap_u32_uR _) ?_
  refine TL_conv_eq rfl rfl (wrap_i64_in hu.1 (by omega)) ?_
  repeat' (first | refine rn ?_ | (apply TL_box; exact rfl; exact rfl; exact rfl; intro _ _) | (apply TL_alloc; exact rfl; intro _ _) | (apply TL_buildSlice; exact rfl; exact rfl; exact rfl; exact rfl; exact rfl; intro _ _))
  exact TQ_ret1 Try.results38 (RV.tmp rfl) (fun w' hs => ⟨rfl, hs.below⟩)
end Go.Proofs.Ytoolblbdmmiahaa
