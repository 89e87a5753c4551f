/- Walks: Clash, Widen, of the program and of the reference. -/
import Derived.Test.YtoolblbdmmiahaaDoorL13
import Derived.Test.YtoolblbdmmiahaaDoorEngV
namespace Go.Proofs.YtoolblbdmmiahaaDoor
open Go Go.Eng Go.RowKit Go.Proofs
set_option maxHeartbeats 4000000
set_option maxRecDepth 10000
attribute [local irreducible] TL TC TQ

/-- The entries of a map that leaves out what o says. -/
def MO (es : List MapEntry) (o : Nat → Bool) : Prop := ∃ f : Int → Option Value, MU .i64 es f ∧ ∀ i : Nat, f (i : Int) = if o i = true then some (.bool true) else none
theorem MO.out {es : Array MapEntry} {o : Nat → Bool} {m clk : Nat} (h : MO es.toList o) : OutH (some m) o [(m, .obj (.map es clk))] := by
  obtain ⟨f, hf, hv⟩ := h
  exact .inr ⟨m, es, clk, f, rfl, rfl, hf.mr, hv⟩
theorem MO.set {es' : List MapEntry} {o : Nat → Bool} {f : Int → Option Value} {m : Nat} (hv : ∀ i : Nat, f (i : Int) = if o i = true then some (.bool true) else none) (h : MU .i64 es' (fupd f (m : Int) (.bool true))) : MO es' (withOut o m) := by
  refine ⟨_, h, fun i => ?_⟩
  unfold fupd withOut
  by_cases hi : i = m
  · subst hi; simp
  · have : ¬ (i : Int) = (m : Int) := by omega
    rw [if_neg this, hv]; simp [hi]
theorem MO.del {es' : List MapEntry} {o : Nat → Bool} {f : Int → Option Value} {m : Nat} (ho : o m = false) (hv : ∀ i : Nat, f (i : Int) = if withOut o m i = true then some (.bool true) else none) (h : MU .i64 es' (fdel f (m : Int))) : MO es' o := by
  refine ⟨_, h, fun i => ?_⟩
  unfold fdel
  by_cases hi : i = m
  · subst hi; simp [ho]
  · have : ¬ (i : Int) = (m : Int) := by omega
    rw [if_neg this, hv]; simp [withOut, hi]
def toI (l : List Nat) : List Int := l.map (fun n : Nat => (n : Int))
def clL (S : Sv) (k : Nat) : List Int := toI (clK S k).2
theorem clL_yes {S : Sv} {k : Nat} (h : (solveR S (withOut (clK S k).1 k) 0).2 = true) : clL S (k + 1) = clL S k ++ [(k : Int)] ∧ (clK S (k + 1)).1 = (clK S k).1 := by
  unfold clL toI
  rw [clK, if_pos h]
  exact ⟨by simp, rfl⟩
theorem clL_no {S : Sv} {k : Nat} (h : (solveR S (withOut (clK S k).1 k) 0).2 = false) : clL S (k + 1) = clL S k ∧ (clK S (k + 1)).1 = withOut (clK S k).1 k := by
  unfold clL toI
  rw [clK, if_neg (by rw [h]; simp)]
  exact ⟨rfl, rfl⟩
theorem clL_len (S : Sv) (k : Nat) : (clL S k).length ≤ k := by
  unfold clL toI
  rw [List.length_map]
  induction k with
  | zero => simp [clK]
  | succ k ih =>
    rw [clK]
    split
    · simp; exact ih
    · exact Nat.le_succ_of_le ih
/-- .. in what is left out, what comes later is not yet. -/
theorem clK_late (S : Sv) : ∀ k i, k ≤ i → (clK S k).1 i = false := by
  intro k
  induction k with
  | zero => intro i _; rfl
  | succ k ih =>
    intro i hi
    rw [clK]
    split
    · exact ih i (by omega)
    · simp only [withOut]; rw [ih i (by omega), decide_eq_false (by omega)]; rfl
def clashI (S : Sv) : List Int × Int := (toI (clashF S).1, (clashF S).2)
theorem clashI_inv {S : Sv} (h : ¬ OkSv S) : clashI S = ([], 10) := by unfold clashI clashF; rw [if_pos h]; rfl
theorem clashI_ok {S : Sv} (h : OkSv S) (h2 : okS S = true) : clashI S = ([], 6) := by unfold clashI clashF; rw [if_neg (not_not_intro h), if_pos h2]; rfl
theorem clashI_no {S : Sv} (h : OkSv S) (h2 : okS S = false) : clashI S = (clL S (S.shots.length + S.marks.length), 0) := by unfold clashI clashF; rw [if_neg (not_not_intro h), if_neg (by rw [h2]; simp)]; rfl
theorem widenF_no {S : Sv} (h : ¬ OkSv S) : widenF S = (0, 10) := if_pos h
theorem widenF_ok {S : Sv} (h : OkSv S) : widenF S = (widenR S, 0) := if_neg (not_not_intro h)
theorem c26 (S : Sv) (p : Pl) (h1 : S.shots.length ≤ 1000000) (h2 : S.marks.length ≤ 1000000) (h3 : S.thr.length ≤ 1000000) (w : World) (ha : SvAt w S p) :
    Calls Tryd.prog 9 #[.agg (encSv S p).toArray] w (RetP w.heap.size w (fun q : Option Addr × Nat × Hp => .tuple #[.slice q.1 (clashI S).1.length q.2.1, .int .i64 (clashI S).2]) (fun q => q.2.2) (fun q => Row 3 1 encI q.1 q.2.1 q.2.2 (clashI S).1)) := by
  refine enter (args := [.agg (encSv S p).toArray]) Tryd.func9 rfl Tryd.ntmps9 rfl (SH.refl _) ?_
  repeat' (first | refine rn ?_ | (apply TL_box; exact rfl; exact rfl; exact rfl; intro _ _) | (apply TL_alloc; exact rfl; intro _ _) | (apply TL_buildSlice; exact rfl; exact rfl; exact rfl; exact rfl; exact rfl; intro _ _))
  rename_i b1 _
  refine TL_callV rfl rfl rfl (fun w h => c20 S p h1 h2 h3 w (ha.mono h)) ?_
  by_cases hS : OkSv S
  rotate_left
  · rw [clashI_inv hS, checkS_no hS]
    repeat' (first | refine rn ?_ | (apply TL_box; exact rfl; exact rfl; exact rfl; intro _ _) | (apply TL_alloc; exact rfl; intro _ _) | (apply TL_buildSlice; exact rfl; exact rfl; exact rfl; exact rfl; exact rfl; intro _ _))
    exact TQ_ret2 Tryd.results9 (RV.tmp rfl) (RV.tmp rfl) (fun w' hs => ⟨(none, 0, []), Row.nil _ _ _, rfl, hs.sub (List.nil_sublist _)⟩)
  rw [checkS_ok hS]
  have hl1 := hS.2.1
  have hl2 := hS.2.2.1
  repeat' (first | refine rn ?_ | (apply TL_box; exact rfl; exact rfl; exact rfl; intro _ _) | (apply TL_alloc; exact rfl; intro _ _) | (apply TL_buildSlice; exact rfl; exact rfl; exact rfl; exact rfl; exact rfl; intro _ _))
  refine TL_makeMap rfl (fun bm _ => ?_)
  repeat' (first | refine rn ?_ | (apply TL_box; exact rfl; exact rfl; exact rfl; intro _ _) | (apply TL_alloc; exact rfl; intro _ _) | (apply TL_buildSlice; exact rfl; exact rfl; exact rfl; exact rfl; exact rfl; intro _ _))
  rename_i b5 _
  have hm0 : MO (#[] : Array MapEntry).toList (clK S 0).1 := ⟨_, MU.nil, fun i => by simp [clK]⟩
  refine TL.weaken (H' := (bm, .obj (.map #[] 0)) :: ([(b5, .cells (encY S p (some bm) 0) 66), (b1, .cells (encSv S p) 32)] : Hp)) (Sub.refl _) (fun w h => h.perm (List.Perm.swap _ _ _)) ?_
  refine TL_call rfl rfl rfl _ _ _ (fun w h => c56 S p (some bm) (clK S 0).1 0 [(bm, .obj (.map #[] 0))] ([(b5, .cells (encY S p (some bm) 0) 66), (b1, .cells (encSv S p) 32)] : Hp) hS hm0.out (by omega) (fun h => ha.mono h) w h) (fun bt _ => ?_)
  have e0 : (solveR S (clK S 0).1 0).2 = okS S := rfl
  rw [e0]
  cases hok : okS S with
  | true =>
    rw [clashI_ok hS hok]
    repeat' (first | refine rn ?_ | (apply TL_box; exact rfl; exact rfl; exact rfl; intro _ _) | (apply TL_alloc; exact rfl; intro _ _) | (apply TL_buildSlice; exact rfl; exact rfl; exact rfl; exact rfl; exact rfl; intro _ _))
    exact TQ_ret2 Tryd.results9 (RV.tmp rfl) (RV.tmp rfl) (fun w' hs => ⟨(none, 0, []), Row.nil _ _ _, rfl, hs.sub (List.nil_sublist _)⟩)
  | false =>
  rw [clashI_no hS hok]
  repeat' (first | refine rn ?_ | (apply TL_box; exact rfl; exact rfl; exact rfl; intro _ _) | (apply TL_alloc; exact rfl; intro _ _) | (apply TL_buildSlice; exact rfl; exact rfl; exact rfl; exact rfl; exact rfl; intro _ _))
  refine TC_loop (σ := Nat × Array MapEntry × Nat × Option Addr × Nat × Hp) (fun q => q.1 ≤ S.shots.length + S.marks.length ∧ MO q.2.1.toList (clK S q.1).1 ∧ Row 3 1 encI q.2.2.2.1 q.2.2.2.2.1 q.2.2.2.2.2 (clL S q.1)) (fun q => [(1, .pointer (some ⟨b1, 0, none⟩)), (5, .pointer (some ⟨b5, 0, none⟩)), (8, .slice q.2.2.2.1 (clL S q.1).length q.2.2.2.2.1), (32, .int .i64 ((S.shots.length : Int) + (S.marks.length : Int))), (33, .int .i64 (q.1 : Nat))])
    (fun q => (bm, .obj (.map q.2.1 q.2.2.1)) :: (q.2.2.2.2.2 ++ ([(b5, .cells (encY S p (some bm) 0) 66), (b1, .cells (encSv S p) 32)] : Hp))) (fun q => S.shots.length + S.marks.length - q.1) (0, #[], 0, none, 0, []) ⟨Nat.zero_le _, hm0, Row.nil _ _ _⟩ sb (fun w h => h.sub (List.Sublist.cons _ (List.Sublist.refl _))) (fun q hq => ?_)
  obtain ⟨k, es, clk, so, sc, ob⟩ := q
  obtain ⟨hk, hmo, hrow⟩ := hq
  dsimp only at hk hmo hrow ⊢
  have hll := clL_len S k
  repeat' (first | refine rn ?_ | (apply TL_box; exact rfl; exact rfl; exact rfl; intro _ _) | (apply TL_alloc; exact rfl; intro _ _) | (apply TL_buildSlice; exact rfl; exact rfl; exact rfl; exact rfl; exact rfl; intro _ _))
  refine TC_cond_dec rfl (fun g1 => ?_) (fun g1 => ?_)
  · have hlt : k < S.shots.length + S.marks.length := by omega
    obtain ⟨f, hf, hv⟩ := hmo
    repeat' (first | refine rn ?_ | (apply TL_box; exact rfl; exact rfl; exact rfl; intro _ _) | (apply TL_alloc; exact rfl; intro _ _) | (apply TL_buildSlice; exact rfl; exact rfl; exact rfl; exact rfl; exact rfl; intro _ _))
    refine TL_mapSetU (.inl rfl) rfl rfl rfl (fun es' clk' => up) hf (fun es' clk' hf' => ?_)
    have hmo' := MO.set hv hf'
    repeat' (first | refine rn ?_ | (apply TL_box; exact rfl; exact rfl; exact rfl; intro _ _) | (apply TL_alloc; exact rfl; intro _ _) | (apply TL_buildSlice; exact rfl; exact rfl; exact rfl; exact rfl; exact rfl; intro _ _))
    refine TL_call rfl rfl rfl _ _ _ (fun w h => c56 S p (some bm) (withOut (clK S k).1 k) 0 [(bm, .obj (.map es' clk'))] (ob ++ ([(b5, .cells (encY S p (some bm) 0) 66), (b1, .cells (encSv S p) 32)] : Hp)) hS hmo'.out (by omega) (fun h => ha.mono h) w h) (fun bt _ => ?_)
    cases hfit : (solveR S (withOut (clK S k).1 k) 0).2 with
    | false =>
      obtain ⟨e1, e2⟩ := clL_no hfit
      rw [← e2] at hmo'
      repeat' (first | refine rn ?_ | (apply TL_box; exact rfl; exact rfl; exact rfl; intro _ _) | (apply TL_alloc; exact rfl; intro _ _) | (apply TL_buildSlice; exact rfl; exact rfl; exact rfl; exact rfl; exact rfl; intro _ _))
      refine TQ_round (k + 1, es', clk', so, sc, ob) ⟨hlt, hmo', by rw [e1]; exact hrow⟩ (by dsimp only; omega) (by (try dsimp only); rw [e1]; exact sb) (fun w h => h.sub (List.Sublist.cons _ (List.Sublist.refl _)))
    | true =>
      obtain ⟨e1, e2⟩ := clL_yes hfit
      obtain ⟨f2, hf2, hv2⟩ := hmo'
      repeat' (first | refine rn ?_ | (apply TL_box; exact rfl; exact rfl; exact rfl; intro _ _) | (apply TL_alloc; exact rfl; intro _ _) | (apply TL_buildSlice; exact rfl; exact rfl; exact rfl; exact rfl; exact rfl; intro _ _))
      refine TL_delete rfl rfl (fun es'' => up) hf2 (fun es'' hf3 => ?_)
      have hmo3 := MO.del (clK_late S k k (Nat.le_refl _)) hv2 hf3
      rw [← e2] at hmo3
      repeat' (first | refine rn ?_ | (apply TL_box; exact rfl; exact rfl; exact rfl; intro _ _) | (apply TL_alloc; exact rfl; intro _ _) | (apply TL_buildSlice; exact rfl; exact rfl; exact rfl; exact rfl; exact rfl; intro _ _))
      refine TL_append (l := clL S k) (l2 := [(k : Int)]) (enc := encI) (G := _) rfl (by rfl) rfl rfl rfl rfl rfl hrow (pm_cons (pm_cons (pm_cons pm_here))) (fun w h => Sl.of_blk h mm (fun _ _ => rfl) ⟨[], by rfl⟩) (fun u _ => rfl) (by simp only [List.length_singleton]; omega) (by simp only [List.length_singleton, maxLen]; omega) (fun so' sc' ob' hrow' => ?_)
      rw [← e1] at hrow' ⊢
      repeat' (first | refine rn ?_ | (apply TL_box; exact rfl; exact rfl; exact rfl; intro _ _) | (apply TL_alloc; exact rfl; intro _ _) | (apply TL_buildSlice; exact rfl; exact rfl; exact rfl; exact rfl; exact rfl; intro _ _))
      refine TQ_round (k + 1, es'', clk', so', sc', ob') ⟨hlt, hmo3, hrow'⟩ (by dsimp only; omega) sb (fun w h => (h.sub (List.Sublist.append_left (List.Sublist.cons _ (List.Sublist.cons _ (List.Sublist.refl _))) _)).perm List.perm_middle.symm)
  have hk2 : k = S.shots.length + S.marks.length := by omega
  subst hk2
  repeat' (first | refine rn ?_ | (apply TL_box; exact rfl; exact rfl; exact rfl; intro _ _) | (apply TL_alloc; exact rfl; intro _ _) | (apply TL_buildSlice; exact rfl; exact rfl; exact rfl; exact rfl; exact rfl; intro _ _))
  exact TQ_ret2 Tryd.results9 (RV.tmp rfl) (RV.tmp rfl) (fun w' hs => ⟨(so, sc, ob), hrow, rfl, hs.sub (List.Sublist.cons _ (List.sublist_append_left _ _))⟩)
theorem c58 {B : Nat} {w0 : World} (S : Sv) (p : Pl) (hS : OkSv S) (b1 : Nat) (H : Hp) (hm : (b1, .cells (encSv S p) 32) ∈ H) (hsv : ∀ {w : World} {H : Hp}, SH B w0 w H → SvAt w S p) (x : Int) (hx : 0 ≤ x ∧ x ≤ 40000000) (w : World) (hs : SH B w0 w H) :
    Calls Tryd.prog 23 #[.int .i64 x, .pointer (some ⟨b1, 0, none⟩)] w (RetP B w0 (fun _ : Unit => .bool (solveR S none_ x).2) (fun _ => H) (fun _ => True)) := by
  refine enter (args := [.int .i64 x, .pointer (some ⟨b1, 0, none⟩)]) Tryd.func23 rfl Tryd.ntmps23 rfl hs ?_
  repeat' (first | refine rn ?_ | (apply TL_box; exact rfl; exact rfl; exact rfl; intro _ _) | (apply TL_alloc; exact rfl; intro _ _) | (apply TL_buildSlice; exact rfl; exact rfl; exact rfl; exact rfl; exact rfl; intro _ _))
  refine TL_loadn rfl rfl hm rfl ?_
  repeat' (first | refine rn ?_ | (apply TL_box; exact rfl; exact rfl; exact rfl; intro _ _) | (apply TL_alloc; exact rfl; intro _ _) | (apply TL_buildSlice; exact rfl; exact rfl; exact rfl; exact rfl; exact rfl; intro _ _))
  refine TL_callN rfl rfl rfl (fun w h => c56n S p x hx hS w (hsv h)) ?_
  rintro bt -
  change TL _ _ _ _ _ _ _ _ _ _ _
  repeat' (first | refine rn ?_ | (apply TL_box; exact rfl; exact rfl; exact rfl; intro _ _) | (apply TL_alloc; exact rfl; intro _ _) | (apply TL_buildSlice; exact rfl; exact rfl; exact rfl; exact rfl; exact rfl; intro _ _))
  exact TQ_ret1 Tryd.results23 (RV.tmp rfl) (fun w' hs => ⟨(), trivial, rfl, hs.sub (List.Sublist.cons _ (List.Sublist.refl _))⟩)
theorem leastR_stop {p : Int → Bool} {n : Nat} {lo hi : Int} (h : ¬ lo < hi) : leastR p n lo hi = lo := by
  cases n with
  | zero => rfl
  | succ n => rw [leastR, if_neg h]
theorem leastR_fuel {p : Int → Bool} : ∀ (n m : Nat) (lo hi : Int), hi - lo ≤ n → hi - lo ≤ m → leastR p n lo hi = leastR p m lo hi := by
  intro n
  induction n with
  | zero => intro m lo hi h1 h2; rw [leastR_stop (by omega), leastR_stop (by omega)]
  | succ n ih =>
    intro m lo hi h1 h2
    cases m with
    | zero => rw [leastR_stop (by omega), leastR_stop (by omega)]
    | succ m =>
      rw [leastR, leastR]
      split
      · rw [ih m _ _ (by omega) (by omega), ih m _ _ (by omega) (by omega)]
      · rfl
/-- The halving, from lo and hi. -/
def halve (S : Sv) (lo hi : Int) : Int := leastR (fun w => (solveR S none_ w).2) (hi - lo).toNat lo hi
theorem halve_stop {S : Sv} {lo hi : Int} (h : ¬ lo < hi) : halve S lo hi = lo := leastR_stop h
theorem halve_yes {S : Sv} {lo hi : Int} (h : lo < hi) (hp : (solveR S none_ ((lo + hi) / 2)).2 = true) : halve S lo hi = halve S lo ((lo + hi) / 2) := by
  unfold halve
  rw [leastR_fuel (hi - lo).toNat ((hi - lo).toNat + 1) lo hi (by omega) (by omega), leastR, if_pos h, if_pos hp]
  exact leastR_fuel _ _ _ _ (by omega) (by omega)
theorem halve_no {S : Sv} {lo hi : Int} (h : lo < hi) (hp : (solveR S none_ ((lo + hi) / 2)).2 = false) : halve S lo hi = halve S ((lo + hi) / 2 + 1) hi := by
  unfold halve
  rw [leastR_fuel (hi - lo).toNat ((hi - lo).toNat + 1) lo hi (by omega) (by omega), leastR, if_pos h, if_neg (by rw [hp]; simp)]
  exact leastR_fuel _ _ _ _ (by omega) (by omega)
theorem halve_all (S : Sv) : halve S 0 40000000 = widenR S := rfl
theorem c57 {B : Nat} {w0 : World} (S : Sv) (p : Pl) (hS : OkSv S) (b1 : Nat) (H : Hp) (hm : (b1, .cells (encSv S p) 32) ∈ H) (hsv : ∀ {w : World} {H : Hp}, SH B w0 w H → SvAt w S p) (lo hi : Int) (h0 : 0 ≤ lo) (h1 : lo ≤ hi) (h2 : hi ≤ 40000000) (w : World) (hs : SH B w0 w H) :
    Calls Tryd.prog 22 #[.int .i64 lo, .int .i64 hi, .func (.func 23) #[] #[.pointer (some ⟨b1, 0, none⟩)]] w (RetP B w0 (fun _ : Unit => .int .i64 (halve S lo hi)) (fun _ => H) (fun _ => True)) := by
  refine enter (args := [.int .i64 lo, .int .i64 hi, .func (.func 23) #[] #[.pointer (some ⟨b1, 0, none⟩)]]) Tryd.func22 rfl Tryd.ntmps22 rfl hs ?_
  repeat' (first | refine rn ?_ | (apply TL_box; exact rfl; exact rfl; exact rfl; intro _ _) | (apply TL_alloc; exact rfl; intro _ _) | (apply TL_buildSlice; exact rfl; exact rfl; exact rfl; exact rfl; exact rfl; intro _ _))
  refine TC_loop (σ := Int × Int) (fun q => (0 ≤ q.1 ∧ q.1 ≤ q.2 ∧ q.2 ≤ 40000000) ∧ halve S q.1 q.2 = halve S lo hi) (fun q => [(0, .int .i64 q.1), (1, .int .i64 q.2), (2, .func (.func 23) #[] #[.pointer (some ⟨b1, 0, none⟩)])]) (fun _ => H) (fun q => (q.2 - q.1).toNat) (lo, hi) ⟨⟨h0, h1, h2⟩, rfl⟩ sb (fun w h => h) (fun q hq => ?_)
  obtain ⟨l, u⟩ := q
  obtain ⟨⟨q1, q2, q3⟩, q4⟩ := hq
  dsimp only at q1 q2 q3 q4 ⊢
  repeat' (first | refine rn ?_ | (apply TL_box; exact rfl; exact rfl; exact rfl; intro _ _) | (apply TL_alloc; exact rfl; intro _ _) | (apply TL_buildSlice; exact rfl; exact rfl; exact rfl; exact rfl; exact rfl; intro _ _))
  refine TC_cond_dec rfl (fun g1 => ?_) (fun g1 => ?_)
  · have em : l + (u - l) / 2 = (l + u) / 2 := by omega
    repeat' (first | refine rn ?_ | (apply TL_box; exact rfl; exact rfl; exact rfl; intro _ _) | (apply TL_alloc; exact rfl; intro _ _) | (apply TL_buildSlice; exact rfl; exact rfl; exact rfl; exact rfl; exact rfl; intro _ _))
    rw [em]
    refine TL_call rfl rfl rfl _ _ _ (fun w h => c58 S p hS b1 H hm hsv ((l + u) / 2) (by omega) w h) (fun _ _ => ?_)
    cases hp : (solveR S none_ ((l + u) / 2)).2 with
    | true =>
      repeat' (first | refine rn ?_ | (apply TL_box; exact rfl; exact rfl; exact rfl; intro _ _) | (apply TL_alloc; exact rfl; intro _ _) | (apply TL_buildSlice; exact rfl; exact rfl; exact rfl; exact rfl; exact rfl; intro _ _))
      refine TQ_round (l, (l + u) / 2) ⟨⟨q1, by dsimp only; omega, by dsimp only; omega⟩, by rw [← q4, halve_yes g1 hp]⟩ (by dsimp only; omega) sb (fun w h => h)
    | false =>
      repeat' (first | refine rn ?_ | (apply TL_box; exact rfl; exact rfl; exact rfl; intro _ _) | (apply TL_alloc; exact rfl; intro _ _) | (apply TL_buildSlice; exact rfl; exact rfl; exact rfl; exact rfl; exact rfl; intro _ _))
      refine TQ_round ((l + u) / 2 + 1, u) ⟨⟨by dsimp only; omega, by dsimp only; omega, q3⟩, by rw [← q4, halve_no g1 hp]⟩ (by dsimp only; omega) sb (fun w h => h)
  rw [← q4, halve_stop g1]
  repeat' (first | refine rn ?_ | (apply TL_box; exact rfl; exact rfl; exact rfl; intro _ _) | (apply TL_alloc; exact rfl; intro _ _) | (apply TL_buildSlice; exact rfl; exact rfl; exact rfl; exact rfl; exact rfl; intro _ _))
  exact TQ_ret1 Tryd.results22 (RV.tmp rfl) (fun w' hs => ⟨(), trivial, rfl, hs⟩)
theorem c28 (S : Sv) (p : Pl) (h1 : S.shots.length ≤ 1000000) (h2 : S.marks.length ≤ 1000000) (h3 : S.thr.length ≤ 1000000) (w : World) (ha : SvAt w S p) :
    Calls Tryd.prog 8 #[.agg (encSv S p).toArray] w (RetV w (.tuple #[.int .i64 (widenF S).1, .int .i64 (widenF S).2])) := by
  refine enter (args := [.agg (encSv S p).toArray]) Tryd.func8 rfl Tryd.ntmps8 rfl (SH.refl _) ?_
  repeat' (first | refine rn ?_ | (apply TL_box; exact rfl; exact rfl; exact rfl; intro _ _) | (apply TL_alloc; exact rfl; intro _ _) | (apply TL_buildSlice; exact rfl; exact rfl; exact rfl; exact rfl; exact rfl; intro _ _))
  rename_i b1 _
  refine TL_callV rfl rfl rfl (fun w h => c20 S p h1 h2 h3 w (ha.mono h)) ?_
  by_cases hS : OkSv S
  rotate_left
  · rw [widenF_no hS, checkS_no hS]
    repeat' (first | refine rn ?_ | (apply TL_box; exact rfl; exact rfl; exact rfl; intro _ _) | (apply TL_alloc; exact rfl; intro _ _) | (apply TL_buildSlice; exact rfl; exact rfl; exact rfl; exact rfl; exact rfl; intro _ _))
    exact TQ_ret2 Tryd.results8 (RV.tmp rfl) (RV.tmp rfl) (fun w' hs => ⟨rfl, hs.below⟩)
  rw [checkS_ok hS, widenF_ok hS]
  repeat' (first | refine rn ?_ | (apply TL_box; exact rfl; exact rfl; exact rfl; intro _ _) | (apply TL_alloc; exact rfl; intro _ _) | (apply TL_buildSlice; exact rfl; exact rfl; exact rfl; exact rfl; exact rfl; intro _ _))
  refine TL_call rfl rfl rfl _ _ _ (fun w h => c57 S p hS b1 _ mm (fun h => ha.mono h) 0 40000000 (by omega) (by omega) (by omega) w h) (fun _ _ => ?_)
  rw [halve_all]
  repeat' (first | refine rn ?_ | (apply TL_box; exact rfl; exact rfl; exact rfl; intro _ _) | (apply TL_alloc; exact rfl; intro _ _) | (apply TL_buildSlice; exact rfl; exact rfl; exact rfl; exact rfl; exact rfl; intro _ _))
  exact TQ_ret2 Tryd.results8 (RV.tmp rfl) (RV.tmp rfl) (fun w' hs => ⟨rfl, hs.below⟩)
end Go.Proofs.YtoolblbdmmiahaaDoor
