/- Walks: Great, Twin, SameSpans, SameInts, Same. -/
import Derived.Test.YtoolblbdmmiahaaL2
namespace Go.Proofs.Ytoolblbdmmiahaa
open Go Go.Eng Go.RowKit Go.Proofs
set_option maxHeartbeats 4000000
set_option maxRecDepth 10000
attribute [local irreducible] TL TC TQ

def GreatS (S : Sv) : Prop := 90 < S.shots.length ∨ 30 < S.marks.length ∨ 50 < S.thr.length
instance (S : Sv) : Decidable (GreatS S) := inferInstanceAs (Decidable (_ ∨ _))
theorem c14 (S : Sv) (p : Pl) (h1 : S.shots.length ≤ 9223372036854775807) (h2 : S.marks.length ≤ 9223372036854775807) (h3 : S.thr.length ≤ 9223372036854775807) (w : World) :
    Calls Try.prog 14 #[.agg (encSv S p).toArray] w (RetV w (.bool (decide (GreatS S)))) := by
  refine enter (args := [.agg (encSv S p).toArray]) Try.func14 rfl Try.ntmps14 rfl (SH.refl _) ?_
  repeat' (first | refine rn ?_ | (apply TL_box; exact rfl; exact rfl; exact rfl; intro _ _) | (apply TL_alloc; exact rfl; intro _ _) | (apply TL_buildSlice; exact rfl; exact rfl; exact rfl; exact rfl; exact rfl; intro _ _))
  refine TL_gsplit_dec rfl rfl (fun g1 => ?_) (fun g1 => ?_)
  · repeat' (first | refine rn ?_ | (apply TL_box; exact rfl; exact rfl; exact rfl; intro _ _) | (apply TL_alloc; exact rfl; intro _ _) | (apply TL_buildSlice; exact rfl; exact rfl; exact rfl; exact rfl; exact rfl; intro _ _))
    exact TQ_ret1 Try.results14 (RV.tmp rfl) (fun w' hs => ⟨vbt (.inl (by omega)), hs.below⟩)
  repeat' (first | refine rn ?_ | (apply TL_box; exact rfl; exact rfl; exact rfl; intro _ _) | (apply TL_alloc; exact rfl; intro _ _) | (apply TL_buildSlice; exact rfl; exact rfl; exact rfl; exact rfl; exact rfl; intro _ _))
  refine TL_gsplit_dec rfl rfl (fun g2 => ?_) (fun g2 => ?_)
  · repeat' (first | refine rn ?_ | (apply TL_box; exact rfl; exact rfl; exact rfl; intro _ _) | (apply TL_alloc; exact rfl; intro _ _) | (apply TL_buildSlice; exact rfl; exact rfl; exact rfl; exact rfl; exact rfl; intro _ _))
    exact TQ_ret1 Try.results14 (RV.tmp rfl) (fun w' hs => ⟨vbt (.inr (.inl (by omega))), hs.below⟩)
  repeat' (first | refine rn ?_ | (apply TL_box; exact rfl; exact rfl; exact rfl; intro _ _) | (apply TL_alloc; exact rfl; intro _ _) | (apply TL_buildSlice; exact rfl; exact rfl; exact rfl; exact rfl; exact rfl; intro _ _))
  refine TQ_ret1 Try.results14 (RV.tmp rfl) (fun w' hs => ⟨vb ?_, hs.below⟩)
  unfold GreatS
  omega
/-- Where the lists of a twin lie, and the blocks. -/
structure Tw where
  p : Pl
  o1 : Hp
  o2 : Hp
  o3 : Hp
def Tw.hp (q : Tw) : Hp := q.o3 ++ (q.o2 ++ q.o1)
structure TwAt (S : Sv) (q : Tw) : Prop where
  r1 : RowE 78 4 encSh q.p.a1 q.p.c1 q.o1 S.shots
  r2 : RowE 75 3 encMk q.p.a2 q.p.c2 q.o2 S.marks
  r3 : RowE 72 4 encTh q.p.a3 q.p.c3 q.o3 S.thr
theorem TwAt.sv {S : Sv} {q : Tw} {B : Nat} {w0 w : World} {H : Hp} (h : TwAt S q) (hs : SH B w0 w H) (hm : ∀ x ∈ q.hp, x ∈ H) : SvAt w S q.p :=
  ⟨h.r1.sl hs (fun x hx => hm x (List.mem_append_right _ (List.mem_append_right _ hx))), h.r2.sl hs (fun x hx => hm x (List.mem_append_right _ (List.mem_append_left _ hx))), h.r3.sl hs (fun x hx => hm x (List.mem_append_left _ hx))⟩
theorem c15 (S : Sv) (p : Pl) (h1 : S.shots.length ≤ 1000000) (h2 : S.marks.length ≤ 1000000) (h3 : S.thr.length ≤ 1000000) (w : World) (ha : SvAt w S p) :
    Calls Try.prog 15 #[.agg (encSv S p).toArray] w (RetP w.heap.size w (fun q : Tw => .agg (encSv S q.p).toArray) (fun q => q.hp) (fun q => TwAt S q)) := by
  refine enter (args := [.agg (encSv S p).toArray]) Try.func15 rfl Try.ntmps15 rfl (SH.refl _) ?_
  repeat' (first | refine rn ?_ | (apply TL_box; exact rfl; exact rfl; exact rfl; intro _ _) | (apply TL_alloc; exact rfl; intro _ _) | (apply TL_buildSlice; exact rfl; exact rfl; exact rfl; exact rfl; exact rfl; intro _ _))
  refine TL_append0 (l2 := S.shots) (enc := encSh) rfl (by rfl) rfl rfl rfl (fun w h => h.sl ha.s1) (fun u _ => rfl) (by omega) (by simp only [maxLen]; omega) (fun a1 c1 o1 hr1 => ?_)
  repeat' (first | refine rn ?_ | (apply TL_box; exact rfl; exact rfl; exact rfl; intro _ _) | (apply TL_alloc; exact rfl; intro _ _) | (apply TL_buildSlice; exact rfl; exact rfl; exact rfl; exact rfl; exact rfl; intro _ _))
  refine TL_append0 (l2 := S.marks) (enc := encMk) rfl (by rfl) rfl rfl rfl (fun w h => h.sl ha.s2) (fun u _ => rfl) (by omega) (by simp only [maxLen]; omega) (fun a2 c2 o2 hr2 => ?_)
  repeat' (first | refine rn ?_ | (apply TL_box; exact rfl; exact rfl; exact rfl; intro _ _) | (apply TL_alloc; exact rfl; intro _ _) | (apply TL_buildSlice; exact rfl; exact rfl; exact rfl; exact rfl; exact rfl; intro _ _))
  refine TL_append0 (l2 := S.thr) (enc := encTh) rfl (by rfl) rfl rfl rfl (fun w h => h.sl ha.s3) (fun u _ => rfl) (by omega) (by simp only [maxLen]; omega) (fun a3 c3 o3 hr3 => ?_)
  repeat' (first | refine rn ?_ | (apply TL_box; exact rfl; exact rfl; exact rfl; intro _ _) | (apply TL_alloc; exact rfl; intro _ _) | (apply TL_buildSlice; exact rfl; exact rfl; exact rfl; exact rfl; exact rfl; intro _ _))
  refine TQ_ret1 Try.results15 (RV.celln rfl mm (by rfl)) (fun w' hs => ⟨⟨⟨a1, c1, a2, c2, a3, c3⟩, o1, o2, o3⟩, ⟨hr1, hr2, hr3⟩, rfl, hs.sub ?_⟩)
  exact (List.Sublist.append_left (List.Sublist.cons _ (List.Sublist.append_left (List.Sublist.cons _ (List.sublist_append_left _ _)) _)) _)
theorem c22 (l : List Sp) (ao bo : Option Addr) (ca cb : Nat) (hl : l.length ≤ 1000000) (w : World) (ha : Sl w 2 encSp ao l) (hb : Sl w 2 encSp bo l) :
    Calls Try.prog 22 #[.slice ao l.length ca, .slice bo l.length cb] w (RetV w (.bool true)) := by
  refine enter (args := [.slice ao l.length ca, .slice bo l.length cb]) Try.func22 rfl Try.ntmps22 rfl (SH.refl _) ?_
  repeat' (first | (refine TL_neq_same rfl rfl rfl ?_) | refine r1 ?_ | (apply TL_box; exact rfl; exact rfl; exact rfl; intro _ _) | (apply TL_alloc; exact rfl; intro _ _) | (apply TL_buildSlice; exact rfl; exact rfl; exact rfl; exact rfl; exact rfl; intro _ _))
  refine TC_loop (σ := Nat) (fun k => k ≤ l.length) (fun k => [(0, .slice ao l.length ca), (1, .slice bo l.length cb), (5, .int .i64 k)]) (fun k => []) (fun k => l.length - k) 0 (Nat.zero_le _) sb (fun w h => h) (fun k hk => ?_)
  repeat' (first | refine rn ?_ | (apply TL_box; exact rfl; exact rfl; exact rfl; intro _ _) | (apply TL_alloc; exact rfl; intro _ _) | (apply TL_buildSlice; exact rfl; exact rfl; exact rfl; exact rfl; exact rfl; intro _ _))
  refine TC_cond_dec rfl (fun h1 => ?_) (fun h1 => ?_)
  · have hlt : k < l.length := by omega
    obtain ⟨x, hx⟩ : ∃ x, l[k]? = some x := ⟨_, List.getElem?_eq_getElem hlt⟩
    repeat' (first | refine rn ?_ | (apply TL_box; exact rfl; exact rfl; exact rfl; intro _ _) | (apply TL_alloc; exact rfl; intro _ _) | (apply TL_buildSlice; exact rfl; exact rfl; exact rfl; exact rfl; exact rfl; intro _ _))
    apply TC_draw 9; kernel_rfl; exact Try.mixed
    · iterate 2 (refine' pv ?_; rotate_left)
      (refine' PG.val rfl rfl (by intro _X; refine TL_index k rfl rfl rfl (fun w h => h.sl ha) rfl hlt (Nat.le_refl _) ?_; exact qe) ?_; rotate_left)
      (refine' PG.val rfl rfl (by intro _X; refine TL_load_eln (u := x) rfl rfl (fun w h => h.sl ha) hx rfl ?_; exact qe) ?_; rotate_left)
      iterate 2 (refine' pv ?_; rotate_left)
      (refine' PG.val rfl rfl (by intro _X; refine TL_index k rfl rfl rfl (fun w h => h.sl hb) rfl hlt (Nat.le_refl _) ?_; exact qe) ?_; rotate_left)
      (refine' PG.val rfl rfl (by intro _X; refine TL_load_eln (u := x) rfl rfl (fun w h => h.sl hb) hx rfl ?_; exact qe) ?_; rotate_left)
      (refine' PG.val rfl rfl (by intro _X; refine TL_neqS_same rfl rfl rfl rfl rfl rfl rfl ?_; exact qe) ?_; rotate_left)
      exact PG.nil
    change TL _ _ _ _ _ _ _ _ _ _ _
    repeat' (first | refine rn ?_ | (apply TL_box; exact rfl; exact rfl; exact rfl; intro _ _) | (apply TL_alloc; exact rfl; intro _ _) | (apply TL_buildSlice; exact rfl; exact rfl; exact rfl; exact rfl; exact rfl; intro _ _))
    refine TQ_round (k + 1) hlt (by omega) sb (fun w h => h)
  · repeat' (first | refine rn ?_ | (apply TL_box; exact rfl; exact rfl; exact rfl; intro _ _) | (apply TL_alloc; exact rfl; intro _ _) | (apply TL_buildSlice; exact rfl; exact rfl; exact rfl; exact rfl; exact rfl; intro _ _))
    exact TQ_ret1 Try.results22 (RV.tmp rfl) (fun w' hs => ⟨rfl, hs.below⟩)
theorem c30 (l : List Int) (ao bo : Option Addr) (ca cb : Nat) (hl : l.length ≤ 1000000) (w : World) (ha : Sl w 1 encI ao l) (hb : Sl w 1 encI bo l) :
    Calls Try.prog 30 #[.slice ao l.length ca, .slice bo l.length cb] w (RetV w (.bool true)) := by
  refine enter (args := [.slice ao l.length ca, .slice bo l.length cb]) Try.func30 rfl Try.ntmps30 rfl (SH.refl _) ?_
  repeat' (first | (refine TL_neq_same rfl rfl rfl ?_) | refine r1 ?_ | (apply TL_box; exact rfl; exact rfl; exact rfl; intro _ _) | (apply TL_alloc; exact rfl; intro _ _) | (apply TL_buildSlice; exact rfl; exact rfl; exact rfl; exact rfl; exact rfl; intro _ _))
  refine TC_loop (σ := Nat) (fun k => k ≤ l.length) (fun k => [(0, .slice ao l.length ca), (1, .slice bo l.length cb), (5, .int .i64 k)]) (fun k => []) (fun k => l.length - k) 0 (Nat.zero_le _) sb (fun w h => h) (fun k hk => ?_)
  repeat' (first | refine rn ?_ | (apply TL_box; exact rfl; exact rfl; exact rfl; intro _ _) | (apply TL_alloc; exact rfl; intro _ _) | (apply TL_buildSlice; exact rfl; exact rfl; exact rfl; exact rfl; exact rfl; intro _ _))
  refine TC_cond_dec rfl (fun h1 => ?_) (fun h1 => ?_)
  · have hlt : k < l.length := by omega
    obtain ⟨x, hx⟩ : ∃ x, l[k]? = some x := ⟨_, List.getElem?_eq_getElem hlt⟩
    repeat' (first | refine rn ?_ | (apply TL_box; exact rfl; exact rfl; exact rfl; intro _ _) | (apply TL_alloc; exact rfl; intro _ _) | (apply TL_buildSlice; exact rfl; exact rfl; exact rfl; exact rfl; exact rfl; intro _ _))
    apply TC_draw 9; kernel_rfl; exact Try.mixed
    · iterate 2 (refine' pv ?_; rotate_left)
      (refine' PG.val rfl rfl (by intro _X; refine TL_index k rfl rfl rfl (fun w h => h.sl ha) rfl hlt (Nat.le_refl _) ?_; exact qe) ?_; rotate_left)
      (refine' PG.val rfl rfl (by intro _X; refine TL_load_el1 (u := x) rfl rfl (fun w h => h.sl ha) hx rfl ?_; exact qe) ?_; rotate_left)
      iterate 2 (refine' pv ?_; rotate_left)
      (refine' PG.val rfl rfl (by intro _X; refine TL_index k rfl rfl rfl (fun w h => h.sl hb) rfl hlt (Nat.le_refl _) ?_; exact qe) ?_; rotate_left)
      (refine' PG.val rfl rfl (by intro _X; refine TL_load_el1 (u := x) rfl rfl (fun w h => h.sl hb) hx rfl ?_; exact qe) ?_; rotate_left)
      (refine' PG.val rfl rfl (by intro _X; refine TL_neq_same rfl rfl rfl ?_; exact qe) ?_; rotate_left)
      exact PG.nil
    change TL _ _ _ _ _ _ _ _ _ _ _
    repeat' (first | refine rn ?_ | (apply TL_box; exact rfl; exact rfl; exact rfl; intro _ _) | (apply TL_alloc; exact rfl; intro _ _) | (apply TL_buildSlice; exact rfl; exact rfl; exact rfl; exact rfl; exact rfl; intro _ _))
    refine TQ_round (k + 1) hlt (by omega) sb (fun w h => h)
  · repeat' (first | refine rn ?_ | (apply TL_box; exact rfl; exact rfl; exact rfl; intro _ _) | (apply TL_alloc; exact rfl; intro _ _) | (apply TL_buildSlice; exact rfl; exact rfl; exact rfl; exact rfl; exact rfl; intro _ _))
    exact TQ_ret1 Try.results30 (RV.tmp rfl) (fun w' hs => ⟨rfl, hs.below⟩)
theorem c23 (S : Sv) (p q : Pl) (h1 : S.shots.length ≤ 1000000) (h2 : S.marks.length ≤ 1000000) (h3 : S.thr.length ≤ 1000000) (w : World) (ha : SvAt w S p) (hb : SvAt w S q) :
    Calls Try.prog 23 #[.agg (encSv S p).toArray, .agg (encSv S q).toArray] w (RetV w (.bool true)) := by
  refine enter (args := [.agg (encSv S p).toArray, .agg (encSv S q).toArray]) Try.func23 rfl Try.ntmps23 rfl (SH.refl _) ?_
  repeat' (first | (refine TL_neq_same rfl rfl rfl ?_) | refine r1 ?_ | (apply TL_box; exact rfl; exact rfl; exact rfl; intro _ _) | (apply TL_alloc; exact rfl; intro _ _) | (apply TL_buildSlice; exact rfl; exact rfl; exact rfl; exact rfl; exact rfl; intro _ _))
  rename_i b2 _ b3 _
  refine TC_loop (σ := Nat) (fun k => k ≤ S.shots.length) (fun k => [(2, .pointer (some ⟨b2, 0, none⟩)), (3, .pointer (some ⟨b3, 0, none⟩)), (5, .int .i64 k)]) (fun k => [(b3, .cells (encSv S q) 26), (b2, .cells (encSv S p) 26)]) (fun k => S.shots.length - k) 0 (Nat.zero_le _) sb (fun w h => h) (fun k hk => ?_)
  repeat' (first | refine rn ?_ | (apply TL_box; exact rfl; exact rfl; exact rfl; intro _ _) | (apply TL_alloc; exact rfl; intro _ _) | (apply TL_buildSlice; exact rfl; exact rfl; exact rfl; exact rfl; exact rfl; intro _ _))
  refine TC_cond_dec rfl (fun h1' => ?_) (fun h1' => ?_)
  · have hlt : k < S.shots.length := by omega
    obtain ⟨x, hx⟩ : ∃ x, S.shots[k]? = some x := ⟨_, List.getElem?_eq_getElem hlt⟩
    repeat' (first | refine rn ?_ | (apply TL_box; exact rfl; exact rfl; exact rfl; intro _ _) | (apply TL_alloc; exact rfl; intro _ _) | (apply TL_buildSlice; exact rfl; exact rfl; exact rfl; exact rfl; exact rfl; intro _ _))
    apply TC_draw 11; kernel_rfl; exact Try.mixed
    · iterate 3 (refine' pv ?_; rotate_left)
      (refine' PG.val rfl rfl (by intro _X; refine TL_index k rfl rfl rfl (fun w h => h.sl ha.s1) rfl hlt (Nat.le_refl _) ?_; exact qe) ?_; rotate_left)
      (refine' PG.val rfl rfl (by intro _X; refine TL_load_eln (u := x) rfl rfl (fun w h => h.sl ha.s1) hx rfl ?_; exact qe) ?_; rotate_left)
      iterate 3 (refine' pv ?_; rotate_left)
      (refine' PG.val rfl rfl (by intro _X; refine TL_index k rfl rfl rfl (fun w h => h.sl hb.s1) rfl hlt (Nat.le_refl _) ?_; exact qe) ?_; rotate_left)
      (refine' PG.val rfl rfl (by intro _X; refine TL_load_eln (u := x) rfl rfl (fun w h => h.sl hb.s1) hx rfl ?_; exact qe) ?_; rotate_left)
      (refine' PG.val rfl rfl (by intro _X; refine TL_neqS_same rfl rfl rfl rfl rfl rfl rfl ?_; exact qe) ?_; rotate_left)
      exact PG.nil
    change TL _ _ _ _ _ _ _ _ _ _ _
    repeat' (first | refine rn ?_ | (apply TL_box; exact rfl; exact rfl; exact rfl; intro _ _) | (apply TL_alloc; exact rfl; intro _ _) | (apply TL_buildSlice; exact rfl; exact rfl; exact rfl; exact rfl; exact rfl; intro _ _))
    refine TQ_round (k + 1) hlt (by omega) sb (fun w h => h)
  repeat' (first | refine rn ?_ | (apply TL_box; exact rfl; exact rfl; exact rfl; intro _ _) | (apply TL_alloc; exact rfl; intro _ _) | (apply TL_buildSlice; exact rfl; exact rfl; exact rfl; exact rfl; exact rfl; intro _ _))
  refine TC_loop (σ := Nat) (fun k => k ≤ S.marks.length) (fun k => [(2, .pointer (some ⟨b2, 0, none⟩)), (3, .pointer (some ⟨b3, 0, none⟩)), (6, .int .i64 k)]) (fun k => [(b3, .cells (encSv S q) 26), (b2, .cells (encSv S p) 26)]) (fun k => S.marks.length - k) 0 (Nat.zero_le _) sb (fun w h => h) (fun k hk => ?_)
  repeat' (first | refine rn ?_ | (apply TL_box; exact rfl; exact rfl; exact rfl; intro _ _) | (apply TL_alloc; exact rfl; intro _ _) | (apply TL_buildSlice; exact rfl; exact rfl; exact rfl; exact rfl; exact rfl; intro _ _))
  refine TC_cond_dec rfl (fun h1' => ?_) (fun h1' => ?_)
  · have hlt : k < S.marks.length := by omega
    obtain ⟨x, hx⟩ : ∃ x, S.marks[k]? = some x := ⟨_, List.getElem?_eq_getElem hlt⟩
    repeat' (first | refine rn ?_ | (apply TL_box; exact rfl; exact rfl; exact rfl; intro _ _) | (apply TL_alloc; exact rfl; intro _ _) | (apply TL_buildSlice; exact rfl; exact rfl; exact rfl; exact rfl; exact rfl; intro _ _))
    apply TC_draw 11; kernel_rfl; exact Try.mixed
    · iterate 3 (refine' pv ?_; rotate_left)
      (refine' PG.val rfl rfl (by intro _X; refine TL_index k rfl rfl rfl (fun w h => h.sl ha.s2) rfl hlt (Nat.le_refl _) ?_; exact qe) ?_; rotate_left)
      (refine' PG.val rfl rfl (by intro _X; refine TL_load_eln (u := x) rfl rfl (fun w h => h.sl ha.s2) hx rfl ?_; exact qe) ?_; rotate_left)
      iterate 3 (refine' pv ?_; rotate_left)
      (refine' PG.val rfl rfl (by intro _X; refine TL_index k rfl rfl rfl (fun w h => h.sl hb.s2) rfl hlt (Nat.le_refl _) ?_; exact qe) ?_; rotate_left)
      (refine' PG.val rfl rfl (by intro _X; refine TL_load_eln (u := x) rfl rfl (fun w h => h.sl hb.s2) hx rfl ?_; exact qe) ?_; rotate_left)
      (refine' PG.val rfl rfl (by intro _X; refine TL_neqS_same rfl rfl rfl rfl rfl rfl rfl ?_; exact qe) ?_; rotate_left)
      exact PG.nil
    change TL _ _ _ _ _ _ _ _ _ _ _
    repeat' (first | refine rn ?_ | (apply TL_box; exact rfl; exact rfl; exact rfl; intro _ _) | (apply TL_alloc; exact rfl; intro _ _) | (apply TL_buildSlice; exact rfl; exact rfl; exact rfl; exact rfl; exact rfl; intro _ _))
    refine TQ_round (k + 1) hlt (by omega) sb (fun w h => h)
  repeat' (first | refine rn ?_ | (apply TL_box; exact rfl; exact rfl; exact rfl; intro _ _) | (apply TL_alloc; exact rfl; intro _ _) | (apply TL_buildSlice; exact rfl; exact rfl; exact rfl; exact rfl; exact rfl; intro _ _))
  refine TC_loop (σ := Nat) (fun k => k ≤ S.thr.length) (fun k => [(2, .pointer (some ⟨b2, 0, none⟩)), (3, .pointer (some ⟨b3, 0, none⟩)), (7, .int .i64 k)]) (fun k => [(b3, .cells (encSv S q) 26), (b2, .cells (encSv S p) 26)]) (fun k => S.thr.length - k) 0 (Nat.zero_le _) sb (fun w h => h) (fun k hk => ?_)
  repeat' (first | refine rn ?_ | (apply TL_box; exact rfl; exact rfl; exact rfl; intro _ _) | (apply TL_alloc; exact rfl; intro _ _) | (apply TL_buildSlice; exact rfl; exact rfl; exact rfl; exact rfl; exact rfl; intro _ _))
  refine TC_cond_dec rfl (fun h1' => ?_) (fun h1' => ?_)
  · have hlt : k < S.thr.length := by omega
    obtain ⟨x, hx⟩ : ∃ x, S.thr[k]? = some x := ⟨_, List.getElem?_eq_getElem hlt⟩
    repeat' (first | refine rn ?_ | (apply TL_box; exact rfl; exact rfl; exact rfl; intro _ _) | (apply TL_alloc; exact rfl; intro _ _) | (apply TL_buildSlice; exact rfl; exact rfl; exact rfl; exact rfl; exact rfl; intro _ _))
    apply TC_draw 11; kernel_rfl; exact Try.mixed
    · iterate 3 (refine' pv ?_; rotate_left)
      (refine' PG.val rfl rfl (by intro _X; refine TL_index k rfl rfl rfl (fun w h => h.sl ha.s3) rfl hlt (Nat.le_refl _) ?_; exact qe) ?_; rotate_left)
      (refine' PG.val rfl rfl (by intro _X; refine TL_load_eln (u := x) rfl rfl (fun w h => h.sl ha.s3) hx rfl ?_; exact qe) ?_; rotate_left)
      iterate 3 (refine' pv ?_; rotate_left)
      (refine' PG.val rfl rfl (by intro _X; refine TL_index k rfl rfl rfl (fun w h => h.sl hb.s3) rfl hlt (Nat.le_refl _) ?_; exact qe) ?_; rotate_left)
      (refine' PG.val rfl rfl (by intro _X; refine TL_load_eln (u := x) rfl rfl (fun w h => h.sl hb.s3) hx rfl ?_; exact qe) ?_; rotate_left)
      (refine' PG.val rfl rfl (by intro _X; refine TL_neqS_same rfl rfl rfl rfl rfl rfl rfl ?_; exact qe) ?_; rotate_left)
      exact PG.nil
    change TL _ _ _ _ _ _ _ _ _ _ _
    repeat' (first | refine rn ?_ | (apply TL_box; exact rfl; exact rfl; exact rfl; intro _ _) | (apply TL_alloc; exact rfl; intro _ _) | (apply TL_buildSlice; exact rfl; exact rfl; exact rfl; exact rfl; exact rfl; intro _ _))
    refine TQ_round (k + 1) hlt (by omega) sb (fun w h => h)
  repeat' (first | refine rn ?_ | (apply TL_box; exact rfl; exact rfl; exact rfl; intro _ _) | (apply TL_alloc; exact rfl; intro _ _) | (apply TL_buildSlice; exact rfl; exact rfl; exact rfl; exact rfl; exact rfl; intro _ _))
  exact TQ_ret1 Try.results23 (RV.tmp rfl) (fun w' hs => ⟨rfl, hs.below⟩)
end Go.Proofs.Ytoolblbdmmiahaa
