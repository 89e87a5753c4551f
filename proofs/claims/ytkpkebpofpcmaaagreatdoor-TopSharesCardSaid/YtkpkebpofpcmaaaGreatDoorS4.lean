/- Walks: a number in parts. -/
import Derived.Test.YtkpkebpofpcmaaaGreatDoorEngR
import Derived.Test.YtkpkebpofpcmaaaGreatDoorS3
namespace Go.Proofs.YtkpkebpofpcmaaaGreatDoor
open Go Go.Eng Go.RowKit Go.Proofs
set_option maxHeartbeats 4000000
set_option maxRecDepth 10000
attribute [local irreducible] TL TC TQ

theorem sumP_snoc : ∀ (l : List Sp) (x : Sp), sumP (l ++ [x]) = sumP l + x.2
  | [], x => by simp [sumP]
  | y :: l, x => by rw [List.cons_append, sumP, sumP, sumP_snoc l x]; omega
theorem sumI_snoc : ∀ (l : List Int) (x : Int), sumI (l ++ [x]) = sumI l + x
  | [], x => by simp [sumI]
  | y :: l, x => by rw [List.cons_append, sumI, sumI, sumI_snoc l x]; omega
theorem le_sumI : ∀ (o : List Int), (∀ x ∈ o, 0 ≤ x) → 0 ≤ sumI o ∧ ∀ x ∈ o, x ≤ sumI o
  | [], _ => ⟨by simp [sumI], fun x hx => by cases hx⟩
  | y :: o, h => by
    obtain ⟨h1, h2⟩ := le_sumI o (fun x hx => h x (List.mem_cons_of_mem _ hx))
    have := h y List.mem_cons_self
    refine ⟨by simp only [sumI]; omega, fun x hx => ?_⟩
    simp only [sumI]
    rcases List.mem_cons.1 hx with rfl | hx
    · omega
    · have := h2 x hx; omega
theorem mul_bd {n p : Int} (hn : 0 ≤ n ∧ n ≤ 100000) (hp : 1 ≤ p ∧ p ≤ 1000) : 0 ≤ n * p ∧ n * p ≤ 100000000 := by
  refine ⟨Int.mul_nonneg hn.1 (by omega), ?_⟩
  have h1 := Int.mul_le_mul hn.2 hp.2 (by omega) (by omega)
  omega
theorem quo_bd {a S : Int} (ha : 0 ≤ a) (hS : 1 ≤ S) : 0 ≤ a / S ∧ a / S ≤ a := ⟨Int.ediv_nonneg ha (by omega), Int.ediv_le_self _ ha⟩
theorem outs_bd {n S : Int} (hn : 0 ≤ n ∧ n ≤ 100000) (hS : 1 ≤ S) : ∀ (l : List Sp), (∀ h ∈ l, 1 ≤ h.2 ∧ h.2 ≤ 1000) → 0 ≤ sumI (outsM n S l) ∧ sumI (outsM n S l) ≤ 100000000 * l.length
  | [], _ => by simp [outsM, sumI]
  | h :: l, hh => by
    have ih := outs_bd hn hS l (fun x hx => hh x (List.mem_cons_of_mem _ hx))
    have h1 := mul_bd hn (hh h List.mem_cons_self)
    have h2 := quo_bd h1.1 hS
    have e1 : outsM n S (h :: l) = n * h.2 / S :: outsM n S l := rfl
    rw [e1, sumI, List.length_cons]; omega
theorem c213 (n : Int) (hs : List Sp) (ao : Option Addr) (c : Nat) (ok : OkH hs) (hn : 0 ≤ n ∧ n ≤ 100000) (i k : Int) (hi : 0 ≤ i ∧ i < hs.length) (hk : 0 ≤ k ∧ k < hs.length) (b3 b5 b4 b7 : Nat) (w : World) (h3 : Sl w 1 encI (some ⟨b3, 0, none⟩) [n]) (h5 : Sl w 1 encV (some ⟨b5, 0, none⟩) [.func (.func 191) #[] #[]])
    (h4 : Sl w 1 encV (some ⟨b4, 0, none⟩) [.slice ao hs.length c]) (h7 : Sl w 1 encI (some ⟨b7, 0, none⟩) [sumP hs]) (hl : Sl w 2 encSp ao hs) :
    Calls Tryz.prog 213 #[.int .i64 i, .int .i64 k, .pointer (some ⟨b3, 0, none⟩), .pointer (some ⟨b5, 0, none⟩), .pointer (some ⟨b4, 0, none⟩), .pointer (some ⟨b7, 0, none⟩)] w (RetV w (.int .i64 (cmpH n hs i k))) := by
  obtain ⟨x, hx⟩ : ∃ x, hs[i.toNat]? = some x := ⟨_, List.getElem?_eq_getElem (by omega)⟩
  obtain ⟨y, hy⟩ : ∃ y, hs[k.toNat]? = some y := ⟨_, List.getElem?_eq_getElem (by omega)⟩
  have ex : prtA hs i = x.2 := by unfold prtA; rw [List.getD_eq_getElem?_getD, hx]; rfl
  have ey : prtA hs k = y.2 := by unfold prtA; rw [List.getD_eq_getElem?_getD, hy]; rfl
  have bx := mul_bd hn (ok.p x (List.mem_of_getElem? hx))
  have by_ := mul_bd hn (ok.p y (List.mem_of_getElem? hy))
  have hS := ok.sum
  unfold cmpH
  rw [ex, ey]
  generalize sumP hs = S at *
  have r1 : 0 ≤ n * y.2 % S ∧ n * y.2 % S < S := ⟨Int.emod_nonneg _ (by omega), Int.emod_lt_of_pos _ (by omega)⟩
  have r2 : 0 ≤ n * x.2 % S ∧ n * x.2 % S < S := ⟨Int.emod_nonneg _ (by omega), Int.emod_lt_of_pos _ (by omega)⟩
  revert r1 r2
  intro q1 q2
  refine enter (args := [.int .i64 i, .int .i64 k, .pointer (some ⟨b3, 0, none⟩), .pointer (some ⟨b5, 0, none⟩), .pointer (some ⟨b4, 0, none⟩), .pointer (some ⟨b7, 0, none⟩)]) Tryz.func213 rfl Tryz.ntmps213 rfl (SH.refl _) ?_
  repeat' (first | refine rn ?_ | (refine zb ?_; intro _ _) | (refine za ?_; intro _ _) | (refine zs ?_; intro _ _))
  apply TC_draw 21; kernel_rfl; exact Tryz.mixed
  · (refine' PG.val rfl rfl (by intro _X; refine TL_load_el1 (i := 0) (o := 0) rfl rfl (fun w h => h.sl h3) rfl rfl ?_; exact qe) ?_; rotate_left)
    (refine' PG.val rfl rfl (by intro _X; refine TL_load_el1 (i := 0) (o := 0) rfl rfl (fun w h => h.sl h5) rfl rfl ?_; exact qe) ?_; rotate_left)
    (refine' PG.val rfl rfl (by intro _X; refine TL_load_el1 (i := 0) (o := 0) rfl rfl (fun w h => h.sl h4) rfl rfl ?_; exact qe) ?_; rotate_left)
    (refine' pv ?_; rotate_left)
    (refine' PG.val rfl rfl (by intro _X; refine TL_index k.toNat rfl rfl rfl (fun w h => h.sl hl) (by omega) (by omega) (Nat.le_refl _) ?_; exact qe) ?_; rotate_left)
    (refine' PG.val rfl rfl (by intro _X; refine TL_load_eln (u := y) rfl rfl (fun w h => h.sl hl) hy rfl ?_; exact qe) ?_; rotate_left)
    (refine' PG.val rfl rfl (by intro _X; refine TL_callV rfl rfl rfl (fun w h => c191 y w) ?_; exact qe) ?_; rotate_left)
    (refine' pv ?_; rotate_left)
    (refine' PG.val rfl rfl (by intro _X; refine TL_load_el1 (i := 0) (o := 0) rfl rfl (fun w h => h.sl h7) rfl rfl ?_; exact qe) ?_; rotate_left)
    (refine' pv ?_; rotate_left)
    (refine' PG.val rfl rfl (by intro _X; refine TL_load_el1 (i := 0) (o := 0) rfl rfl (fun w h => h.sl h3) rfl rfl ?_; exact qe) ?_; rotate_left)
    (refine' PG.val rfl rfl (by intro _X; refine TL_load_el1 (i := 0) (o := 0) rfl rfl (fun w h => h.sl h5) rfl rfl ?_; exact qe) ?_; rotate_left)
    (refine' PG.val rfl rfl (by intro _X; refine TL_load_el1 (i := 0) (o := 0) rfl rfl (fun w h => h.sl h4) rfl rfl ?_; exact qe) ?_; rotate_left)
    (refine' pv ?_; rotate_left)
    (refine' PG.val rfl rfl (by intro _X; refine TL_index i.toNat rfl rfl rfl (fun w h => h.sl hl) (by omega) (by omega) (Nat.le_refl _) ?_; exact qe) ?_; rotate_left)
    (refine' PG.val rfl rfl (by intro _X; refine TL_load_eln (u := x) rfl rfl (fun w h => h.sl hl) hx rfl ?_; exact qe) ?_; rotate_left)
    (refine' PG.val rfl rfl (by intro _X; refine TL_callV rfl rfl rfl (fun w h => c191 x w) ?_; exact qe) ?_; rotate_left)
    (refine' pv ?_; rotate_left)
    (refine' PG.val rfl rfl (by intro _X; refine TL_load_el1 (i := 0) (o := 0) rfl rfl (fun w h => h.sl h7) rfl rfl ?_; exact qe) ?_; rotate_left)
    iterate 2 (refine' pv ?_; rotate_left)
    exact PG.nil
  change TL _ _ _ _ _ _ _ _ _ _ _
  repeat' (first | refine rn ?_ | (refine zb ?_; intro _ _) | (refine za ?_; intro _ _) | (refine zs ?_; intro _ _))
  exact TQ_ret1 Tryz.results213 (RV.tmp rfl) (fun w' hs => ⟨rfl, hs.below⟩)
def dvH (bn bf ba : Nat) (n : Int) (a f : Value) : Hp := [(bf, .cells [f] 291), (ba, .cells [a] 48), (bn, .cells [.int .i64 n] 3)]
theorem c190 (n : Int) (hs : List Sp) (ao : Option Addr) (c : Nat) (ok : OkH hs) (hn : 0 ≤ n ∧ n ≤ 100000) (w : World) (hl : Sl w 2 encSp ao hs) :
    Calls Tryz.prog 190 #[.int .i64 n, .slice ao hs.length c, .func (.func 191) #[] #[]] w (RetP w.heap.size w (fun q : Option Addr × Nat × Hp => .slice q.1 hs.length q.2.1) (fun q => q.2.2) (fun q => Row 3 1 encI q.1 q.2.1 q.2.2 (divM n hs))) := by
  have hS := ok.sum
  have hlen := ok.len
  have hpos : 0 < hs.length := List.length_pos_iff.2 ok.ne
  refine enter (args := [.int .i64 n, .slice ao hs.length c, .func (.func 191) #[] #[]]) Tryz.func190 rfl Tryz.ntmps190 rfl (SH.refl _) ?_
  repeat' (first | refine rn ?_ | (refine zb ?_; intro _ _) | (refine za ?_; intro _ _) | (refine zs ?_; intro _ _))
  rename_i bn _ ba _ bf _
  refine TC_join (σ := Nat) (fun _ => True) (fun b7 => [(3, .pointer (some ⟨bn, 0, none⟩)), (4, .pointer (some ⟨ba, 0, none⟩)), (5, .pointer (some ⟨bf, 0, none⟩)), (7, .pointer (some ⟨b7, 0, none⟩)), (8, .int .i64 n)]) (fun b7 => (b7, .cells [.int .i64 0] 3) :: dvH bn bf ba n (.slice ao hs.length c) (.func (.func 191) #[] #[])) ?_ (fun b7 _ => ?_)
  · refine TC_any Tryz.mixed ?_
    refine TA_stepL [0, 1] (by kernel_rfl) rfl ⟨?_, ?_, trivial⟩
    · change TL _ _ _ _ _ _ _ _ _ _ _
      refine r1 ?_; apply TL_nil; apply TQ_any
      refine TA_stepL [1] (by kernel_rfl) rfl ⟨?_, trivial⟩
      change TL _ _ _ _ _ _ _ _ _ _ _
      (apply TL_alloc; exact rfl; intro b7 _); apply TL_nil; apply TQ_any
      refine TA_stepL [2] (by kernel_rfl) rfl ⟨?_, trivial⟩
      change TL _ _ _ _ _ _ _ _ _ _ _
      refine r1 ?_; apply TL_nil; apply TQ_any
      refine TA_stepL [3] (by kernel_rfl) rfl ⟨?_, trivial⟩
      change TL _ _ _ _ _ _ _ _ _ _ _
      refine r1 ?_; apply TL_nil; apply TQ_any
      refine TA_done (by kernel_rfl) ?_
      exact TQ_mid b7 trivial sb (fun w h => h)
    · change TL _ _ _ _ _ _ _ _ _ _ _
      (apply TL_alloc; exact rfl; intro b7 _); apply TL_nil; apply TQ_any
      refine TA_stepL [0, 2] (by kernel_rfl) rfl ⟨?_, ?_, trivial⟩
      · change TL _ _ _ _ _ _ _ _ _ _ _
        refine r1 ?_; apply TL_nil; apply TQ_any
        refine TA_stepL [2] (by kernel_rfl) rfl ⟨?_, trivial⟩
        change TL _ _ _ _ _ _ _ _ _ _ _
        refine r1 ?_; apply TL_nil; apply TQ_any
        refine TA_stepL [3] (by kernel_rfl) rfl ⟨?_, trivial⟩
        change TL _ _ _ _ _ _ _ _ _ _ _
        refine r1 ?_; apply TL_nil; apply TQ_any
        refine TA_done (by kernel_rfl) ?_
        exact TQ_mid b7 trivial sb (fun w h => h)
      · change TL _ _ _ _ _ _ _ _ _ _ _
        refine r1 ?_; apply TL_nil; apply TQ_any
        refine TA_stepL [0] (by kernel_rfl) rfl ⟨?_, trivial⟩
        change TL _ _ _ _ _ _ _ _ _ _ _
        refine r1 ?_; apply TL_nil; apply TQ_any
        refine TA_stepL [3] (by kernel_rfl) rfl ⟨?_, trivial⟩
        change TL _ _ _ _ _ _ _ _ _ _ _
        refine r1 ?_; apply TL_nil; apply TQ_any
        refine TA_done (by kernel_rfl) ?_
        exact TQ_mid b7 trivial sb (fun w h => h)
  unfold dvH
  repeat' (first | refine rn ?_ | (refine zb ?_; intro _ _) | (refine za ?_; intro _ _) | (refine zs ?_; intro _ _))
  refine TC_loop (σ := Nat) (fun k => k ≤ hs.length) (fun k => [(3, .pointer (some ⟨bn, 0, none⟩)), (4, .pointer (some ⟨ba, 0, none⟩)), (5, .pointer (some ⟨bf, 0, none⟩)), (7, .pointer (some ⟨b7, 0, none⟩)), (8, .int .i64 n), (18, .slice ao hs.length c), (19, .int .i64 hs.length), (20, .int .i64 k)]) (fun k => (b7, .cells [.int .i64 (sumP (hs.take k))] 3) :: dvH bn bf ba n (.slice ao hs.length c) (.func (.func 191) #[] #[])) (fun k => hs.length - k) 0 (Nat.zero_le _) sb (fun w h => h) (fun k hk => ?_)
  have hbd := sumP_bd (hs.take k) (fun x hx => ok.p x (List.mem_of_mem_take hx))
  have hkl : (hs.take k).length = k := by rw [List.length_take]; omega
  unfold dvH
  repeat' (first | refine rn ?_ | (refine zb ?_; intro _ _) | (refine za ?_; intro _ _) | (refine zs ?_; intro _ _))
  refine TC_cond_dec rfl (fun g1 => ?_) (fun g1 => ?_)
  · have hlt : k < hs.length := by omega
    obtain ⟨x, hx⟩ : ∃ x, hs[k]? = some x := ⟨_, List.getElem?_eq_getElem hlt⟩
    have hpx := ok.p x (List.mem_of_getElem? hx)
    repeat' (first | refine rn ?_ | (refine zb ?_; intro _ _) | (refine za ?_; intro _ _) | (refine zs ?_; intro _ _))
    refine TL_index k rfl rfl rfl (fun w h => h.sl hl) rfl hlt (Nat.le_refl _) ?_
    refine TL_load_eln (u := x) rfl rfl (fun w h => h.sl hl) hx rfl ?_
    repeat' (first | refine rn ?_ | (refine zb ?_; intro _ _) | (refine za ?_; intro _ _) | (refine zs ?_; intro _ _))
    apply TC_draw 5; kernel_rfl; exact Tryz.mixed
    · iterate 3 (refine' pv ?_; rotate_left)
      (refine' PG.val rfl rfl (by intro _X; refine TL_callV rfl rfl rfl (fun w h => c191 x w) ?_; exact qe) ?_; rotate_left)
      (refine' pv ?_; rotate_left)
      exact PG.nil
    change TL _ _ _ _ _ _ _ _ _ _ _
    repeat' (first | refine rn ?_ | (refine zb ?_; intro _ _) | (refine za ?_; intro _ _) | (refine zs ?_; intro _ _))
    refine TQ_round (k + 1) (by omega) (by omega) sb (fun w h => ?_)
    rw [take_snoc hx, sumP_snoc]
    exact h.sub (List.sublist_cons_self _ _)
  have ekl : k = hs.length := by omega
  subst ekl
  rw [List.take_length]
  clear hbd hkl
  repeat' (first | refine rn ?_ | (refine zb ?_; intro _ _) | (refine za ?_; intro _ _) | (refine zs ?_; intro _ _))
  refine TC_loop (σ := Nat × (Option Addr × Nat × Hp) × (Option Addr × Nat × Hp)) (fun q => q.1 ≤ hs.length ∧ Row 3 1 encI q.2.1.1 q.2.1.2.1 q.2.1.2.2 (outsM n (sumP hs) (hs.take q.1)) ∧ Row 3 1 encI q.2.2.1 q.2.2.2.1 q.2.2.2.2 (upto q.1)) (fun q => [(3, .pointer (some ⟨bn, 0, none⟩)), (4, .pointer (some ⟨ba, 0, none⟩)), (5, .pointer (some ⟨bf, 0, none⟩)), (7, .pointer (some ⟨b7, 0, none⟩)), (8, .int .i64 (n - sumI (outsM n (sumP hs) (hs.take q.1)))), (11, .slice q.2.1.1 (outsM n (sumP hs) (hs.take q.1)).length q.2.1.2.1), (12, .slice q.2.2.1 (upto q.1).length q.2.2.2.1), (30, .slice ao hs.length c), (31, .int .i64 hs.length), (32, .int .i64 q.1)]) (fun q => q.2.1.2.2 ++ (q.2.2.2.2 ++ ((b7, .cells [.int .i64 (sumP hs)] 3) :: dvH bn bf ba n (.slice ao hs.length c) (.func (.func 191) #[] #[])))) (fun q => hs.length - q.1) (0, (none, 0, []), (none, 0, [])) ⟨Nat.zero_le _, Row.nil _ _ _, Row.nil _ _ _⟩ (by show Sub [_, _, _, _, (8, .int .i64 (n - 0)), _, _, _, _, _] _; rw [Int.sub_zero]; exact sb) (fun w h => h) (fun q hq => ?_)
  obtain ⟨k, ⟨a1, c1, o1⟩, ⟨a2, c2, o2⟩⟩ := q
  obtain ⟨hk, hr1, hr2⟩ := hq
  dsimp only at hk hr1 hr2 ⊢
  have hbd := outs_bd hn hS.1 (hs.take k) (fun x hx => ok.p x (List.mem_of_mem_take hx))
  have hkl : (hs.take k).length = k := by rw [List.length_take]; omega
  rw [hkl] at hbd
  unfold dvH
  repeat' (first | refine rn ?_ | (refine zb ?_; intro _ _) | (refine za ?_; intro _ _) | (refine zs ?_; intro _ _))
  refine TC_cond_dec rfl (fun g1 => ?_) (fun g1 => ?_)
  · have hlt : k < hs.length := by omega
    obtain ⟨x, hx⟩ : ∃ x, hs[k]? = some x := ⟨_, List.getElem?_eq_getElem hlt⟩
    have hpx := mul_bd hn (ok.p x (List.mem_of_getElem? hx))
    have hqx := quo_bd hpx.1 hS.1
    have eo : outsM n (sumP hs) (hs.take (k + 1)) = outsM n (sumP hs) (hs.take k) ++ [n * x.2 / sumP hs] := by unfold outsM; rw [take_snoc hx, List.map_append]; rfl
    have hol : (outsM n (sumP hs) (hs.take k)).length = k := by rw [outsM_len, hkl]
    have hul := upto_len k
    repeat' (first | refine rn ?_ | (refine zb ?_; intro _ _) | (refine za ?_; intro _ _) | (refine zs ?_; intro _ _))
    refine TL_index k rfl rfl rfl (fun w h => h.sl hl) rfl hlt (Nat.le_refl _) ?_
    refine TL_load_eln (u := x) rfl rfl (fun w h => h.sl hl) hx rfl ?_
    repeat' (first | refine rn ?_ | (refine zb ?_; intro _ _) | (refine za ?_; intro _ _) | (refine zs ?_; intro _ _))
    rename_i b14 _
    apply TC_draw6 13 9 [] (o1) ((b14, Blk.cells [.int .i64 x.1, .int .i64 x.2] 214) :: (o2 ++ ((b7, Blk.cells [.int .i64 (sumP hs)] 3) :: (bf, Blk.cells [.func (.func 191) #[] #[]] 291) :: (ba, Blk.cells [.slice ao hs.length c] 48) :: [(bn, Blk.cells [.int .i64 n] 3)]))) (List.perm_middle); kernel_rfl; exact rfl; exact Tryz.mixed; exact rfl
    · iterate 4 (refine' pv6 ?_; rotate_left)
      (refine' PG6.val rfl rfl rfl (by intro _X; refine TL_callV rfl rfl rfl (fun w h => c191 x w) ?_; exact qe) ?_; rotate_left)
      iterate 3 (refine' pv6 ?_; rotate_left)
      (refine' PG6.rel ((fun v h => ∃ b, v = .slice (some ⟨b, 0, none⟩) 1 1 ∧ h = [(b, .cells ([.int .i64 (n * x.2 / sumP hs)]) 3)])) rfl rfl rfl (by intro _X; apply TL_buildSlice; exact rfl; exact rfl; exact rfl; exact rfl; exact rfl; intro b _; exact TL_nil (TQ_QR (h := [(b, _)]) rfl ⟨b, rfl, rfl⟩ (fun _ h => h))) ?_; rotate_left)
      (refine' PG6.big (fun v h => ∃ y : Option Addr × Nat × Hp, v = .slice y.1 (outsM n (sumP hs) (hs.take (k + 1))).length y.2.1 ∧ h = y.2.2 ∧ Row 3 1 encI y.1 y.2.1 y.2.2 (outsM n (sumP hs) (hs.take (k + 1)))) rfl rfl rfl (by rintro _ _ ⟨vb, rfl, rfl⟩ _X; refine TL_append (l := outsM n (sumP hs) (hs.take k)) (l2 := [n * x.2 / sumP hs]) (enc := encI) (G := _) rfl (by rfl) rfl rfl rfl rfl rfl hr1 pm_ins (fun w h => Sl.of_blk h (List.Mem.head _) (fun _ _ => rfl) ⟨[], by rfl⟩) (fun u _ => rfl) (by rw [hol]; simp only [List.length_singleton]; omega) (by rw [hol]; simp only [List.length_singleton, maxLen]; omega) (fun so sc ob hr3 => ?_); rw [← eo] at hr3 ⊢; exact TL_nil (TQ_QR (h := ob) rfl ⟨(so, sc, ob), rfl, rfl, hr3⟩ (fun _ h => h))) ?_; rotate_left)
      iterate 2 (refine' pv6 ?_; rotate_left)
      (refine' PG6.rel ((fun v h => ∃ b, v = .slice (some ⟨b, 0, none⟩) 1 1 ∧ h = [(b, .cells ([.int .i64 k]) 3)])) rfl rfl rfl (by intro _X; apply TL_buildSlice; exact rfl; exact rfl; exact rfl; exact rfl; exact rfl; intro b _; exact TL_nil (TQ_QR (h := [(b, _)]) rfl ⟨b, rfl, rfl⟩ (fun _ h => h))) ?_; rotate_left)
      exact PG6.nil
    rintro _ _ ⟨vb2, rfl, rfl⟩ _ _ ⟨y3, rfl, rfl, hr3⟩ _ _ ⟨vb, rfl, rfl⟩
    change TL _ _ _ _ _ _ _ _ _ _ _
    have hxo : (outsM n (sumP hs) (hs.take (k + 1)))[k]? = some (n * x.2 / sumP hs) := by rw [eo, List.getElem?_append_right (by omega), hol]; simp
    have hol2 : (outsM n (sumP hs) (hs.take (k + 1))).length = k + 1 := by rw [eo, List.length_append, hol]; rfl
    refine TL_append (l := upto k) (l2 := [(k : Int)]) (enc := encI) (G := _) rfl (by rfl) rfl rfl rfl rfl rfl hr2 (pmA (pm_cons pm_here)) (fun w h => Sl.of_blk h (List.Mem.head _) (fun _ _ => rfl) ⟨[], by rfl⟩) (fun u _ => rfl) (by rw [hul]; simp only [List.length_singleton]; omega) (by rw [hul]; simp only [List.length_singleton, maxLen]; omega) (fun so sc ob hr4 => ?_)
    rw [← upto_succ] at hr4 ⊢
    repeat' (first | refine rn ?_ | (refine zb ?_; intro _ _) | (refine za ?_; intro _ _) | (refine zs ?_; intro _ _))
    refine TL_index k rfl rfl rfl (fun w h => hr3.sl h (fun p hp => List.mem_append_right _ (List.mem_append_left _ (List.mem_append_right _ (List.mem_append_left _ hp))))) rfl (by omega) (by omega) ?_
    refine TL_load_el1 (u := n * x.2 / sumP hs) rfl rfl (fun w h => hr3.sl h (fun p hp => List.mem_append_right _ (List.mem_append_left _ (List.mem_append_right _ (List.mem_append_left _ hp))))) hxo rfl ?_
    repeat' (first | refine rn ?_ | (refine zb ?_; intro _ _) | (refine za ?_; intro _ _) | (refine zs ?_; intro _ _))
    rw [show n - sumI (outsM n (sumP hs) (hs.take k)) - n * x.2 / sumP hs = n - sumI (outsM n (sumP hs) (hs.take (k + 1))) by rw [eo, sumI_snoc]; omega]
    exact TQ_round (k + 1, y3, (so, sc, ob)) ⟨by dsimp only; omega, hr3, hr4⟩ (by dsimp only; omega) sb (fun w h => (h.sub (H' := ob ++ (y3.2.2 ++ ((b7, Blk.cells [.int .i64 (sumP hs)] 3) :: (bf, Blk.cells [.func (.func 191) #[] #[]] 291) :: (ba, Blk.cells [.slice ao hs.length c] 48) :: [(bn, Blk.cells [.int .i64 n] 3)]))) (List.Sublist.append_left (List.Sublist.append (List.Sublist.cons _ (List.sublist_append_left _ _)) (List.sublist_cons_self _ _)) _)).perm (List.perm_append_comm_assoc _ _ _))
  have ekl : k = hs.length := by omega
  subst ekl
  rw [List.take_length] at hr1 hbd ⊢
  have hol : (outsM n (sumP hs) hs).length = hs.length := outsM_len _ _ _
  have hlb := left_bd (n := n) ok
  have hul := upto_len hs.length
  repeat' (first | refine rn ?_ | (refine zb ?_; intro _ _) | (refine za ?_; intro _ _) | (refine zs ?_; intro _ _))
  refine TL_call rfl rfl rfl _ _ _ (fun w h => c212 (G := o1 ++ ((b7, Blk.cells [.int .i64 (sumP hs)] 3) :: (bf, Blk.cells [.func (.func 191) #[] #[]] 291) :: (ba, Blk.cells [.slice ao hs.length c] 48) :: [(bn, Blk.cells [.int .i64 n] 3)])) (cmpH n hs) 213 [.pointer (some ⟨bn, 0, none⟩), .pointer (some ⟨bf, 0, none⟩), .pointer (some ⟨ba, 0, none⟩), .pointer (some ⟨b7, 0, none⟩)] (upto hs.length) (upto hs.length) a2 c2 o2 (Keeps.refl _) (by omega) (by omega) hr2 (fun x hx y hy H w' hG h' => c213 n hs ao c ok hn x y (mem_upto hx) (mem_upto hy) bn bf ba b7 w' (Sl.of_blk (enc := encI) (k := 1) (l := [n]) h' (hG _ mm) (fun _ _ => rfl) ⟨[], rfl⟩) (Sl.of_blk (enc := encV) (k := 1) (l := [.func (.func 191) #[] #[]]) h' (hG _ mm) (fun _ _ => rfl) ⟨[], rfl⟩) (Sl.of_blk (enc := encV) (k := 1) (l := [.slice ao hs.length c]) h' (hG _ mm) (fun _ _ => rfl) ⟨[], rfl⟩) (Sl.of_blk (enc := encI) (k := 1) (l := [sumP hs]) h' (hG _ mm) (fun _ _ => rfl) ⟨[], rfl⟩) (h'.sl hl)) w (h.perm (List.perm_append_comm_assoc _ _ _))) ?_
  intro o4 hr5
  have e5 : insS (ltC (cmpH n hs)) 0 (upto hs.length).length (upto hs.length) = ordM n hs := by rw [upto_len]; rfl
  rw [e5] at hr5
  have hk := ord_keeps n hs
  have hokl : (ordM n hs).length = hs.length := by rw [hk.len, upto_len]
  obtain ⟨bq, rfl⟩ := row_some hr5 (fun e => by rw [e] at hokl; simp at hokl; omega)
  have hc2 := hr5.le
  obtain ⟨lf, hlf⟩ : ∃ lf, lf = (leftM n hs).toNat := ⟨_, rfl⟩
  have hlf2 : n - sumI (outsM n (sumP hs) hs) = (lf : Int) := by unfold leftM at hlf hlb; omega
  have htl : ((ordM n hs).take lf).length = lf := by rw [List.length_take]; omega
  rw [hol, hlf2]
  repeat' (first | refine rn ?_ | (refine zb ?_; intro _ _) | (refine za ?_; intro _ _) | (refine zs ?_; intro _ _))
  refine TL_sliceTo lf rfl rfl rfl rfl (by omega) ?_
  rw [if_neg (by omega), mapAdd0]
  repeat' (first | refine rn ?_ | (refine zb ?_; intro _ _) | (refine za ?_; intro _ _) | (refine zs ?_; intro _ _))
  refine TC_loop (σ := Nat × Hp) (fun q => q.1 ≤ lf ∧ Row 3 1 encI a1 c1 q.2 (((ordM n hs).take q.1).foldl incM (outsM n (sumP hs) hs))) (fun q => [(11, .slice a1 hs.length c1), (63, .slice (some ⟨bq, 0, none⟩) lf c2), (64, .int .i64 lf), (65, .int .i64 q.1)]) (fun q => o4 ++ (q.2 ++ ((b7, Blk.cells [.int .i64 (sumP hs)] 3) :: (bf, Blk.cells [.func (.func 191) #[] #[]] 291) :: (ba, Blk.cells [.slice ao hs.length c] 48) :: [(bn, Blk.cells [.int .i64 n] 3)]))) (fun q => lf - q.1) (0, o1) ⟨Nat.zero_le _, hr1⟩ sb (fun w h => h) (fun q hq => ?_)
  obtain ⟨k, o⟩ := q
  obtain ⟨hkl, hr⟩ := hq
  dsimp only at hkl hr ⊢
  repeat' (first | refine rn ?_ | (refine zb ?_; intro _ _) | (refine za ?_; intro _ _) | (refine zs ?_; intro _ _))
  refine TC_cond_dec rfl (fun g2 => ?_) (fun g2 => ?_)
  · have hlt : k < lf := by omega
    obtain ⟨i, hi⟩ : ∃ i, (ordM n hs)[k]? = some i := ⟨_, List.getElem?_eq_getElem (by omega)⟩
    have hi2 : ((ordM n hs).take lf)[k]? = some i := by rw [List.getElem?_take, if_pos hlt]; exact hi
    have hib := mem_upto (hk.mem i (List.mem_of_getElem? hi))
    have hfl : (((ordM n hs).take k).foldl incM (outsM n (sumP hs) hs)).length = hs.length := by rw [fold_len, hol]
    obtain ⟨v, hv⟩ : ∃ v, (((ordM n hs).take k).foldl incM (outsM n (sumP hs) hs))[i.toNat]? = some v := ⟨_, List.getElem?_eq_getElem (by omega)⟩
    have hnn := nn_fold ((ordM n hs).take k) (outsM n (sumP hs) hs) (fun x hx => by
      unfold outsM at hx
      obtain ⟨y, hy, rfl⟩ := List.mem_map.1 hx
      exact (quo_bd (mul_bd hn (ok.p y hy)).1 hS.1).1)
    have hsum := sum_fold ((ordM n hs).take k) (outsM n (sumP hs) hs) (fun i hi => by rw [hol]; exact mem_upto (hk.mem i (List.mem_of_mem_take hi)))
    have hvb := (le_sumI _ hnn).2 v (List.mem_of_getElem? hv)
    have hv0 := hnn v (List.mem_of_getElem? hv)
    rw [hsum, List.length_take] at hvb
    have enx : ((ordM n hs).take (k + 1)).foldl incM (outsM n (sumP hs) hs) = (((ordM n hs).take k).foldl incM (outsM n (sumP hs) hs)).set i.toNat (v + 1) := by
      rw [take_snoc hi, List.foldl_append, List.foldl_cons, List.foldl_nil, incM, List.getD_eq_getElem?_getD, hv]; rfl
    repeat' (first | refine rn ?_ | (refine zb ?_; intro _ _) | (refine za ?_; intro _ _) | (refine zs ?_; intro _ _))
    refine TL_index k rfl rfl rfl (fun w h => (hr5.sl h (fun p hp => List.mem_append_left _ hp)).take lf) rfl (by omega) (by omega) ?_
    refine TL_load_el1 (u := i) rfl rfl (fun w h => (hr5.sl h (fun p hp => List.mem_append_left _ hp)).take lf) hi2 rfl ?_
    repeat' (first | refine rn ?_ | (refine zb ?_; intro _ _) | (refine za ?_; intro _ _) | (refine zs ?_; intro _ _))
    refine TL_index i.toNat rfl rfl rfl (fun w h => hr.sl h (fun p hp => List.mem_append_right _ (List.mem_append_left _ hp))) (by omega) (by omega) (by omega) ?_
    refine TL_load_el1 (u := v) rfl rfl (fun w h => hr.sl h (fun p hp => List.mem_append_right _ (List.mem_append_left _ hp))) hv rfl ?_
    repeat' (first | refine rn ?_ | (refine zb ?_; intro _ _) | (refine za ?_; intro _ _) | (refine zs ?_; intro _ _))
    refine TL_index i.toNat rfl rfl rfl (fun w h => hr.sl h (fun p hp => List.mem_append_right _ (List.mem_append_left _ hp))) (by omega) (by omega) (by omega) ?_
    refine TL_store_el (enc := encI) (i := i.toNat) (off := 0) (u := v) (u' := v + 1) (fun o => o4 ++ (o ++ ((b7, Blk.cells [.int .i64 (sumP hs)] 3) :: (bf, Blk.cells [.func (.func 191) #[] #[]] 291) :: (ba, Blk.cells [.slice ao hs.length c] 48) :: [(bn, Blk.cells [.int .i64 n] 3)]))) hr rfl rfl rfl rfl rfl rfl hv rfl rfl (fun _ _ _ => up) (fun o' hr6 => ?_)
    rw [← enx] at hr6
    repeat' (first | refine rn ?_ | (refine zb ?_; intro _ _) | (refine za ?_; intro _ _) | (refine zs ?_; intro _ _))
    exact TQ_round (k + 1, o') ⟨by dsimp only; omega, hr6⟩ (by dsimp only; omega) sb (fun w h => h)
  · have ekl : k = lf := by omega
    subst ekl
    rw [hlf] at hr
    repeat' (first | refine rn ?_ | (refine zb ?_; intro _ _) | (refine za ?_; intro _ _) | (refine zs ?_; intro _ _))
    exact TQ_ret1 Tryz.results190 (RV.tmp rfl) (fun w' hs => ⟨(a1, c1, o), hr, rfl, hs.sub (List.sublist_append_of_sublist_right (List.sublist_append_left _ _))⟩)
end Go.Proofs.YtkpkebpofpcmaaaGreatDoor
