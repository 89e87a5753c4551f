/- Walk: the statement LevelLoops. -/
import Derived.Test.YtoolblbdmmiahaaL14
namespace Go.Proofs.Ytoolblbdmmiahaa
open Go Go.Eng Go.RowKit Go.Proofs
set_option maxHeartbeats 4000000
set_option maxRecDepth 10000
attribute [local irreducible] TL TC TQ

theorem clash_len {S : Sv} : (clashI S).1.length ≤ 1000000 := by
  by_cases hS : OkSv S
  · cases hok : okS S with
    | true => rw [clashI_ok hS hok]; simp
    | false =>
      rw [clashI_no hS hok]
      have := clL_len S (S.shots.length + S.marks.length)
      have h1 := hS.2.1
      have h2 := hS.2.2.1
      dsimp only; omega
  · rw [clashI_inv hS]; simp
theorem c4 (S : Sv) (p : Pl) (l : List Int) (ao : Option Addr) (c : Nat) (h1 : S.shots.length ≤ 9223372036854775807) (h2 : S.marks.length ≤ 9223372036854775807) (h3 : S.thr.length ≤ 9223372036854775807) (h4 : l.length ≤ 9223372036854775807) (w : World) (ha : SvAt w S p) (hb : Sl w 1 encI ao l) :
    Calls Try.prog 4 #[.agg (encSv S p).toArray, .slice ao l.length c] w (RetV w (.bool true)) := by
  refine enter (args := [.agg (encSv S p).toArray, .slice ao l.length c]) Try.func4 rfl Try.ntmps4 rfl (SH.refl _) ?_
  repeat' (first | refine rn ?_ | (apply TL_box; exact rfl; exact rfl; exact rfl; intro _ _) | (apply TL_alloc; exact rfl; intro _ _) | (apply TL_buildSlice; exact rfl; exact rfl; exact rfl; exact rfl; exact rfl; intro _ _))
  rename_i b2 _
  refine TL_callV rfl rfl rfl (fun w _ => c14 S p h1 h2 h3 w) ?_
  repeat' (first | refine rn ?_ | (apply TL_box; exact rfl; exact rfl; exact rfl; intro _ _) | (apply TL_alloc; exact rfl; intro _ _) | (apply TL_buildSlice; exact rfl; exact rfl; exact rfl; exact rfl; exact rfl; intro _ _))
  refine TL_gsplit_dec rfl rfl (fun g1 => ?_) (fun g1 => ?_)
  · repeat' (first | refine rn ?_ | (apply TL_box; exact rfl; exact rfl; exact rfl; intro _ _) | (apply TL_alloc; exact rfl; intro _ _) | (apply TL_buildSlice; exact rfl; exact rfl; exact rfl; exact rfl; exact rfl; intro _ _))
    exact TQ_ret1 Try.results4 (RV.tmp rfl) (fun w' hs => ⟨rfl, hs.below⟩)
  unfold GreatS at g1
  rw [not_or, not_or] at g1
  repeat' (first | refine rn ?_ | (apply TL_box; exact rfl; exact rfl; exact rfl; intro _ _) | (apply TL_alloc; exact rfl; intro _ _) | (apply TL_buildSlice; exact rfl; exact rfl; exact rfl; exact rfl; exact rfl; intro _ _))
  refine TC_cond_dec rfl (fun g2 => ?_) (fun g2 => ?_)
  · repeat' (first | refine rn ?_ | (apply TL_box; exact rfl; exact rfl; exact rfl; intro _ _) | (apply TL_alloc; exact rfl; intro _ _) | (apply TL_buildSlice; exact rfl; exact rfl; exact rfl; exact rfl; exact rfl; intro _ _))
    exact TQ_ret1 Try.results4 (RV.tmp rfl) (fun w' hs => ⟨rfl, hs.below⟩)
  repeat' (first | refine rn ?_ | (apply TL_box; exact rfl; exact rfl; exact rfl; intro _ _) | (apply TL_alloc; exact rfl; intro _ _) | (apply TL_buildSlice; exact rfl; exact rfl; exact rfl; exact rfl; exact rfl; intro _ _))
  refine TL_callN rfl rfl rfl (fun w h => c15 S p (by omega) (by omega) (by omega) w (ha.mono h)) ?_
  rintro q hq
  repeat' (first | refine rn ?_ | (apply TL_box; exact rfl; exact rfl; exact rfl; intro _ _) | (apply TL_alloc; exact rfl; intro _ _) | (apply TL_buildSlice; exact rfl; exact rfl; exact rfl; exact rfl; exact rfl; intro _ _))
  refine TL_append0 (l2 := l) (enc := encI) rfl (by rfl) rfl rfl rfl (fun w h => h.sl hb) (fun u _ => rfl) (by omega) (by simp only [maxLen]; omega) (fun a1 k1 o1 hr1 => ?_)
  repeat' (first | refine rn ?_ | (apply TL_box; exact rfl; exact rfl; exact rfl; intro _ _) | (apply TL_alloc; exact rfl; intro _ _) | (apply TL_buildSlice; exact rfl; exact rfl; exact rfl; exact rfl; exact rfl; intro _ _))
  refine TL_callV rfl rfl rfl (fun w h => c24 S q.p l _ _ (by omega) (by omega) (by omega) (by omega) w (hq.sv h (fun x hx => by repeat (first | exact List.mem_append_left _ hx | apply List.mem_append_right | apply List.mem_cons_of_mem))) (hr1.sl h (fun x hx => by repeat (first | exact List.mem_append_left _ hx | apply List.mem_append_right | apply List.mem_cons_of_mem)))) ?_
  repeat' (first | refine rn ?_ | (apply TL_box; exact rfl; exact rfl; exact rfl; intro _ _) | (apply TL_alloc; exact rfl; intro _ _) | (apply TL_buildSlice; exact rfl; exact rfl; exact rfl; exact rfl; exact rfl; intro _ _))
  refine TL_callV rfl rfl rfl (fun w h => c25 S p l _ _ (by omega) (by omega) (by omega) (by omega) w (ha.mono h) (h.sl hb)) ?_
  repeat' (first | refine rn ?_ | (apply TL_box; exact rfl; exact rfl; exact rfl; intro _ _) | (apply TL_alloc; exact rfl; intro _ _) | (apply TL_buildSlice; exact rfl; exact rfl; exact rfl; exact rfl; exact rfl; intro _ _))
  refine TL_callN rfl rfl rfl (fun w h => c26 S q.p (by omega) (by omega) (by omega) w (hq.sv h (fun x hx => by repeat (first | exact List.mem_append_left _ hx | apply List.mem_append_right | apply List.mem_cons_of_mem)))) ?_
  rintro ⟨so1, sc1, ob1⟩ hrow1
  dsimp only at hrow1 ⊢
  repeat' (first | refine rn ?_ | (apply TL_box; exact rfl; exact rfl; exact rfl; intro _ _) | (apply TL_alloc; exact rfl; intro _ _) | (apply TL_buildSlice; exact rfl; exact rfl; exact rfl; exact rfl; exact rfl; intro _ _))
  refine TL_callN rfl rfl rfl (fun w h => c27 S p (by omega) (by omega) (by omega) w (ha.mono h)) ?_
  rintro ⟨so2, sc2, ob2⟩ hrow2
  dsimp only at hrow2 ⊢
  repeat' (first | refine rn ?_ | (apply TL_box; exact rfl; exact rfl; exact rfl; intro _ _) | (apply TL_alloc; exact rfl; intro _ _) | (apply TL_buildSlice; exact rfl; exact rfl; exact rfl; exact rfl; exact rfl; intro _ _))
  refine TL_callV rfl rfl rfl (fun w h => c28 S q.p (by omega) (by omega) (by omega) w (hq.sv h (fun x hx => by repeat (first | exact List.mem_append_left _ hx | apply List.mem_append_right | apply List.mem_cons_of_mem)))) ?_
  repeat' (first | refine rn ?_ | (apply TL_box; exact rfl; exact rfl; exact rfl; intro _ _) | (apply TL_alloc; exact rfl; intro _ _) | (apply TL_buildSlice; exact rfl; exact rfl; exact rfl; exact rfl; exact rfl; intro _ _))
  refine TL_callV rfl rfl rfl (fun w h => c29 S p (by omega) (by omega) (by omega) w (ha.mono h)) ?_
  have hlen := clash_len (S := S)
  repeat' (first | (refine TL_eqlS_same rfl rfl rfl rfl rfl rfl rfl ?_) | (refine TL_eql_same rfl rfl rfl ?_) | refine r1 ?_ | (apply TL_box; exact rfl; exact rfl; exact rfl; intro _ _) | (apply TL_alloc; exact rfl; intro _ _) | (apply TL_buildSlice; exact rfl; exact rfl; exact rfl; exact rfl; exact rfl; intro _ _))
  refine TL_callV rfl rfl rfl (fun w h => c30 (clashI S).1 so1 so2 sc1 sc2 hlen w (hrow1.sl h (fun x hx => by repeat (first | exact List.mem_append_left _ hx | apply List.mem_append_right | apply List.mem_cons_of_mem))) (hrow2.sl h (fun x hx => by repeat (first | exact List.mem_append_left _ hx | apply List.mem_append_right | apply List.mem_cons_of_mem)))) ?_
  repeat' (first | (refine TL_eqlS_same rfl rfl rfl rfl rfl rfl rfl ?_) | (refine TL_eql_same rfl rfl rfl ?_) | refine r1 ?_ | (apply TL_box; exact rfl; exact rfl; exact rfl; intro _ _) | (apply TL_alloc; exact rfl; intro _ _) | (apply TL_buildSlice; exact rfl; exact rfl; exact rfl; exact rfl; exact rfl; intro _ _))
  refine TL_callV rfl rfl rfl (fun w h => c23 S q.p p (by omega) (by omega) (by omega) w (hq.sv h (fun x hx => by repeat (first | exact List.mem_append_left _ hx | apply List.mem_append_right | apply List.mem_cons_of_mem))) (ha.mono h)) ?_
  repeat' (first | refine rn ?_ | (apply TL_box; exact rfl; exact rfl; exact rfl; intro _ _) | (apply TL_alloc; exact rfl; intro _ _) | (apply TL_buildSlice; exact rfl; exact rfl; exact rfl; exact rfl; exact rfl; intro _ _))
  refine TL_callV rfl rfl rfl (fun w h => c30 l _ _ _ _ (by omega) w (hr1.sl h (fun x hx => by repeat (first | exact List.mem_append_left _ hx | apply List.mem_append_right | apply List.mem_cons_of_mem))) (h.sl hb)) ?_
  repeat' (first | refine rn ?_ | (apply TL_box; exact rfl; exact rfl; exact rfl; intro _ _) | (apply TL_alloc; exact rfl; intro _ _) | (apply TL_buildSlice; exact rfl; exact rfl; exact rfl; exact rfl; exact rfl; intro _ _))
  exact TQ_ret1 Try.results4 (RV.tmp rfl) (fun w' hs => ⟨rfl, hs.below⟩)
end Go.Proofs.Ytoolblbdmmiahaa
