/- The walk of the statement LevelNamed. -/
import Derived.Test.YtoolblbdmmiahaaL32
namespace Go.Proofs.Ytoolblbdmmiahaa
open Go Go.Eng Go.RowKit Go.Proofs
set_option maxHeartbeats 4000000
set_option maxRecDepth 10000
attribute [local irreducible] TL TC TQ

def shotsOf (S : Sv) (l : List Int) : List Sh := l.filterMap (fun k => if k.toNat < S.shots.length then S.shots[k.toNat]? else none)
def marksOf (S : Sv) (l : List Int) : List Mk := l.filterMap (fun k => if k.toNat < S.shots.length then none else S.marks[k.toNat - S.shots.length]?)
def onlyI (S : Sv) (l : List Int) : Sv := ⟨S.pts, shotsOf S l, marksOf S l, []⟩
theorem onlyI_map (S : Sv) (l : List Nat) : onlyI S (toI l) = onlyS S l := by
  unfold onlyI onlyS shotsOf marksOf toI
  rw [List.filterMap_map, List.filterMap_map]
  rfl
theorem shots_succ {S : Sv} {l : List Int} {k : Nat} {x : Int} (hx : l[k]? = some x) {y : Sh} (h : x.toNat < S.shots.length) (hy : S.shots[x.toNat]? = some y) : shotsOf S (l.take (k + 1)) = shotsOf S (l.take k) ++ [y] ∧ marksOf S (l.take (k + 1)) = marksOf S (l.take k) := by
  have e : l.take (k + 1) = l.take k ++ [x] := by rw [List.take_add_one, hx]; rfl
  unfold shotsOf marksOf
  rw [e, List.filterMap_append, List.filterMap_append]
  constructor
  · congr 1; rw [List.filterMap_cons, if_pos h, hy]; rfl
  · rw [List.filterMap_cons, if_pos h]; simp
theorem marks_succ {S : Sv} {l : List Int} {k : Nat} {x : Int} (hx : l[k]? = some x) {y : Mk} (h : ¬ x.toNat < S.shots.length) (hy : S.marks[x.toNat - S.shots.length]? = some y) : shotsOf S (l.take (k + 1)) = shotsOf S (l.take k) ∧ marksOf S (l.take (k + 1)) = marksOf S (l.take k) ++ [y] := by
  have e : l.take (k + 1) = l.take k ++ [x] := by rw [List.take_add_one, hx]; rfl
  unfold shotsOf marksOf
  rw [e, List.filterMap_append, List.filterMap_append]
  constructor
  · rw [List.filterMap_cons, if_neg h]; simp
  · congr 1; rw [List.filterMap_cons, if_neg h, hy]; rfl
theorem shotsOf_len (S : Sv) (l : List Int) : (shotsOf S l).length ≤ l.length := List.length_filterMap_le _ _
theorem marksOf_len (S : Sv) (l : List Int) : (marksOf S l).length ≤ l.length := List.length_filterMap_le _ _
/-- Where the lists of a part of a survey lie. -/
structure On where
  a1 : Option Addr
  c1 : Nat
  o1 : Hp
  a2 : Option Addr
  c2 : Nat
  o2 : Hp
def On.p (q : On) : Pl := ⟨q.a1, q.c1, q.a2, q.c2, none, 0⟩
structure OnAt (S : Sv) (q : On) : Prop where
  r1 : Row 78 4 encSh q.a1 q.c1 q.o1 S.shots
  r2 : Row 75 3 encMk q.a2 q.c2 q.o2 S.marks
  r3 : S.thr = []
theorem OnAt.sv {S : Sv} {q : On} {B : Nat} {w0 w : World} {H : Hp} (h : OnAt S q) (hs : SH B w0 w H) (hm1 : ∀ x ∈ q.o1, x ∈ H) (hm2 : ∀ x ∈ q.o2, x ∈ H) : SvAt w S q.p :=
  ⟨h.r1.sl hs hm1, h.r2.sl hs hm2, by rw [h.r3]; exact Sl.nil _ _ _ _⟩
theorem c42 {B : Nat} {w0 : World} (S : Sv) (hS : OkSv S) (p : Pl) (l : List Int) (lo : Option Addr) (lc : Nat) (h4 : l.length ≤ 1000) (hin : ∀ x ∈ l, In x 0 ((S.shots.length : Int) + S.marks.length - 1)) (ha : ∀ {w : World} {K : Hp}, SH B w0 w K → SvAt w S p) (bs : Nat) (G : Hp)
    (hb : ∀ {w : World} {K : Hp}, SH B w0 w K → (∀ x ∈ G, x ∈ K) → Sl w 1 encI lo l) (hms : (bs, .cells (encSv S p) 26) ∈ G) (w : World) (hs : SH B w0 w G) :
    Calls Try.prog 42 #[.slice lo l.length lc, .pointer (some ⟨bs, 0, none⟩)] w (RetP B w0 (fun q : On => .agg (encSv (onlyI S l) q.p).toArray) (fun q => q.o2 ++ (q.o1 ++ G)) (fun q => OnAt (onlyI S l) q)) := by
  have hl1 := hS.2.1
  have hl2 := hS.2.2.1
  refine enter (args := [.slice lo l.length lc, .pointer (some ⟨bs, 0, none⟩)]) Try.func42 rfl Try.ntmps42 rfl hs ?_
  repeat' (first | refine rn ?_ | (apply TL_box; exact rfl; exact rfl; exact rfl; intro _ _) | (apply TL_alloc; exact rfl; intro _ _) | (apply TL_buildSlice; exact rfl; exact rfl; exact rfl; exact rfl; exact rfl; intro _ _))
  rename_i b3 _
  refine TL_load1 rfl rfl (by repeat (first | exact hms | apply List.mem_cons_of_mem | apply List.mem_append_right)) rfl ?_
  repeat' (first | refine rn ?_ | (apply TL_box; exact rfl; exact rfl; exact rfl; intro _ _) | (apply TL_alloc; exact rfl; intro _ _) | (apply TL_buildSlice; exact rfl; exact rfl; exact rfl; exact rfl; exact rfl; intro _ _))
  rename_i b4 _
  refine TC_loop (σ := Nat × On) (fun q => q.1 ≤ l.length ∧ Row 78 4 encSh q.2.a1 q.2.c1 q.2.o1 (shotsOf S (l.take q.1)) ∧ Row 75 3 encMk q.2.a2 q.2.c2 q.2.o2 (marksOf S (l.take q.1))) (fun q => [(0, .slice lo l.length lc), (1, .pointer (some ⟨bs, 0, none⟩)), (3, .pointer (some ⟨b3, 0, none⟩)), (4, .pointer (some ⟨b4, 0, none⟩)), (10, .slice lo l.length lc), (11, .int .i64 l.length), (12, .int .i64 (q.1 : Int))])
    (fun q => (b4, .cells [.int .i64 S.pts, .slice q.2.a1 (shotsOf S (l.take q.1)).length q.2.c1, .slice q.2.a2 (marksOf S (l.take q.1)).length q.2.c2, .slice none 0 0] 26) :: (b3, .cells [.int .i64 0, .slice none 0 0, .slice none 0 0, .slice none 0 0] 26) :: (q.2.o2 ++ (q.2.o1 ++ G))) (fun q => l.length - q.1) (0, ⟨none, 0, [], none, 0, []⟩) ⟨Nat.zero_le _, Row.nil _ _ _, Row.nil _ _ _⟩ sb (fun w h => h) (fun q hq => ?_)
  obtain ⟨k, ⟨a1, c1, o1, a2, c2, o2⟩⟩ := q
  obtain ⟨hk, hr1, hr2⟩ := hq
  dsimp only at hk hr1 hr2 ⊢
  have n1 := shotsOf_len S (l.take k)
  have n2 := marksOf_len S (l.take k)
  rw [List.length_take] at n1 n2
  repeat' (first | refine rn ?_ | (apply TL_box; exact rfl; exact rfl; exact rfl; intro _ _) | (apply TL_alloc; exact rfl; intro _ _) | (apply TL_buildSlice; exact rfl; exact rfl; exact rfl; exact rfl; exact rfl; intro _ _))
  refine TC_cond_dec rfl (fun g1 => ?_) (fun g1 => ?_)
  · have hlt : k < l.length := by omega
    obtain ⟨x, hx⟩ : ∃ x, l[k]? = some x := ⟨_, List.getElem?_eq_getElem hlt⟩
    have hxi := hin x (List.mem_of_getElem? hx)
    simp only [In] at hxi
    repeat' (first | refine rn ?_ | (apply TL_box; exact rfl; exact rfl; exact rfl; intro _ _) | (apply TL_alloc; exact rfl; intro _ _) | (apply TL_buildSlice; exact rfl; exact rfl; exact rfl; exact rfl; exact rfl; intro _ _))
    refine TL_index k rfl rfl rfl (fun w h => hb h (fun x hx => by repeat (first | exact hx | apply List.mem_cons_of_mem | apply List.mem_append_right))) rfl hlt (Nat.le_refl _) ?_
    refine TL_load_el1 (u := x) rfl rfl (fun w h => hb h (fun x hx => by repeat (first | exact hx | apply List.mem_cons_of_mem | apply List.mem_append_right))) hx rfl ?_
    repeat' (first | refine rn ?_ | (apply TL_box; exact rfl; exact rfl; exact rfl; intro _ _) | (apply TL_alloc; exact rfl; intro _ _) | (apply TL_buildSlice; exact rfl; exact rfl; exact rfl; exact rfl; exact rfl; intro _ _))
    refine TL_load1 rfl rfl (by repeat (first | exact hms | apply List.mem_cons_of_mem | apply List.mem_append_right)) rfl ?_
    repeat' (first | refine rn ?_ | (apply TL_box; exact rfl; exact rfl; exact rfl; intro _ _) | (apply TL_alloc; exact rfl; intro _ _) | (apply TL_buildSlice; exact rfl; exact rfl; exact rfl; exact rfl; exact rfl; intro _ _))
    refine TC_cond_dec rfl (fun g2 => ?_) (fun g2 => ?_)
    · obtain ⟨y, hy⟩ : ∃ y, S.shots[x.toNat]? = some y := ⟨_, List.getElem?_eq_getElem (by omega)⟩
      obtain ⟨e1, e2⟩ := shots_succ hx (by omega) hy
      repeat' (first | refine rn ?_ | (apply TL_box; exact rfl; exact rfl; exact rfl; intro _ _) | (apply TL_alloc; exact rfl; intro _ _) | (apply TL_buildSlice; exact rfl; exact rfl; exact rfl; exact rfl; exact rfl; intro _ _))
      apply TC_draw 8; kernel_rfl; exact Try.mixed
      · iterate 3 (refine' pv ?_; rotate_left)
        (refine' PG.val rfl rfl (by intro _X; refine TL_load1 rfl rfl (by repeat (first | exact hms | apply List.mem_cons_of_mem | apply List.mem_append_right)) rfl ?_; exact qe) ?_; rotate_left)
        (refine' pv ?_; rotate_left)
        (refine' PG.val rfl rfl (by intro _X; refine TL_index x.toNat rfl rfl rfl (fun w h => (ha h).s1) (by omega) (by omega) (Nat.le_refl _) ?_; exact qe) ?_; rotate_left)
        (refine' PG.val rfl rfl (by intro _X; refine TL_load_eln (u := y) rfl rfl (fun w h => (ha h).s1) hy rfl ?_; exact qe) ?_; rotate_left)
        (refine' PG.rel ((fun v h => ∃ b, v = .slice (some ⟨b, 0, none⟩) 1 1 ∧ h = [(b, .cells (encSh y) 78)])) rfl rfl (by intro _X; apply TL_buildSlice; exact rfl; exact rfl; exact rfl; exact rfl; exact rfl; intro b _; exact TL_nil (TQ_QR (h := [(b, _)]) rfl ⟨b, rfl, rfl⟩ (fun _ h => h))) ?_; rotate_left)
        exact PG.nil
      rintro _ _ ⟨b7, rfl, rfl⟩
      change TL _ _ _ _ _ _ _ _ _ _ _
      refine TL_append (l := shotsOf S (l.take k)) (l2 := [y]) (enc := encSh) (G := _) rfl (by rfl) rfl rfl rfl rfl rfl hr1 (pm_cons (pm_cons (pm_cons (List.perm_append_comm_assoc _ _ _)))) (fun w h => Sl.of_blk h mm (fun _ _ => rfl) ⟨[], by rfl⟩) (fun u _ => rfl) (by simp only [List.length_singleton]; omega) (by simp only [List.length_singleton, maxLen]; omega) (fun a1' c1' o1' hr1' => ?_)
      rw [← e1] at hr1' ⊢
      rw [← e2] at hr2 ⊢
      repeat' (first | refine rn ?_ | (apply TL_box; exact rfl; exact rfl; exact rfl; intro _ _) | (apply TL_alloc; exact rfl; intro _ _) | (apply TL_buildSlice; exact rfl; exact rfl; exact rfl; exact rfl; exact rfl; intro _ _))
      refine TQ_round (k + 1, ⟨a1', c1', o1', a2, c2, o2⟩) ⟨by dsimp only; omega, hr1', hr2⟩ (by dsimp only; omega) sb (fun w h => (h.sub (List.Sublist.append_left (List.Sublist.cons _ (List.Sublist.refl _)) _)).perm (pm_cons (pm_cons (List.perm_append_comm_assoc _ _ _))).symm)
    · obtain ⟨y, hy⟩ : ∃ y, S.marks[x.toNat - S.shots.length]? = some y := ⟨_, List.getElem?_eq_getElem (by omega)⟩
      obtain ⟨e1, e2⟩ := marks_succ hx (by omega) hy
      repeat' (first | refine rn ?_ | (apply TL_box; exact rfl; exact rfl; exact rfl; intro _ _) | (apply TL_alloc; exact rfl; intro _ _) | (apply TL_buildSlice; exact rfl; exact rfl; exact rfl; exact rfl; exact rfl; intro _ _))
      apply TC_draw 12; kernel_rfl; exact Try.mixed
      · iterate 3 (refine' pv ?_; rotate_left)
        (refine' PG.val rfl rfl (by intro _X; refine TL_load1 rfl rfl (by repeat (first | exact hms | apply List.mem_cons_of_mem | apply List.mem_append_right)) rfl ?_; exact qe) ?_; rotate_left)
        iterate 2 (refine' pv ?_; rotate_left)
        (refine' PG.val rfl rfl (by intro _X; refine TL_load1 rfl rfl (by repeat (first | exact hms | apply List.mem_cons_of_mem | apply List.mem_append_right)) rfl ?_; exact qe) ?_; rotate_left)
        iterate 2 (refine' pv ?_; rotate_left)
        (refine' PG.val rfl rfl (by intro _X; refine TL_index (x.toNat - S.shots.length) rfl rfl rfl (fun w h => (ha h).s2) (by omega) (by omega) (Nat.le_refl _) ?_; exact qe) ?_; rotate_left)
        (refine' PG.val rfl rfl (by intro _X; refine TL_load_eln (u := y) rfl rfl (fun w h => (ha h).s2) hy rfl ?_; exact qe) ?_; rotate_left)
        (refine' PG.rel ((fun v h => ∃ b, v = .slice (some ⟨b, 0, none⟩) 1 1 ∧ h = [(b, .cells (encMk y) 75)])) rfl rfl (by intro _X; apply TL_buildSlice; exact rfl; exact rfl; exact rfl; exact rfl; exact rfl; intro b _; exact TL_nil (TQ_QR (h := [(b, _)]) rfl ⟨b, rfl, rfl⟩ (fun _ h => h))) ?_; rotate_left)
        exact PG.nil
      rintro _ _ ⟨b7, rfl, rfl⟩
      change TL _ _ _ _ _ _ _ _ _ _ _
      refine TL_append (l := marksOf S (l.take k)) (l2 := [y]) (enc := encMk) (G := _) rfl (by rfl) rfl rfl rfl rfl rfl hr2 (pm_cons (pm_cons (pm_cons pm_here))) (fun w h => Sl.of_blk h mm (fun _ _ => rfl) ⟨[], by rfl⟩) (fun u _ => rfl) (by simp only [List.length_singleton]; omega) (by simp only [List.length_singleton, maxLen]; omega) (fun a2' c2' o2' hr2' => ?_)
      rw [← e2] at hr2' ⊢
      rw [← e1] at hr1 ⊢
      repeat' (first | refine rn ?_ | (apply TL_box; exact rfl; exact rfl; exact rfl; intro _ _) | (apply TL_alloc; exact rfl; intro _ _) | (apply TL_buildSlice; exact rfl; exact rfl; exact rfl; exact rfl; exact rfl; intro _ _))
      refine TQ_round (k + 1, ⟨a1, c1, o1, a2', c2', o2'⟩) ⟨by dsimp only; omega, hr1, hr2'⟩ (by dsimp only; omega) sb (fun w h => (h.sub (List.Sublist.append_left (List.Sublist.cons _ (List.Sublist.refl _)) _)).perm (pm_cons (pm_cons pm_here)).symm)
  have et : l.take k = l := List.take_of_length_le (by omega)
  rw [et] at hr1 hr2 ⊢
  repeat' (first | refine rn ?_ | (apply TL_box; exact rfl; exact rfl; exact rfl; intro _ _) | (apply TL_alloc; exact rfl; intro _ _) | (apply TL_buildSlice; exact rfl; exact rfl; exact rfl; exact rfl; exact rfl; intro _ _))
  exact TQ_ret1 Try.results42 (RV.celln rfl mm (by rfl)) (fun w' hs => ⟨⟨a1, c1, o1, a2, c2, o2⟩, ⟨hr1, hr2, rfl⟩, rfl, hs.sub (List.Sublist.cons _ (List.Sublist.cons _ (List.Sublist.refl _)))⟩)
theorem named_law {S : Sv} (hS : OkSv S) (h0 : okS S = false) : ∃ l : List Int, clashI S = (l, 0) ∧ 0 < l.length ∧ l.length ≤ S.shots.length + S.marks.length ∧ (∀ x ∈ l, In x 0 ((S.shots.length : Int) + S.marks.length - 1)) ∧ (∀ (i : Nat) x y, l[i]? = some x → l[i + 1]? = some y → x < y) ∧
    (OkSv (onlyI S l) ∧ okS (onlyI S l) = false) ∧ ∀ q, q < l.length → OkSv (onlyI S (l.take q ++ l.drop (q + 1))) ∧ okS (onlyI S (l.take q ++ l.drop (q + 1))) = true := by
  obtain ⟨a1, a2, a3, a4⟩ := clash_named hS h0
  have hne := clash_ne hS h0
  have hlen : (toI (clashL S)).length = (clashL S).length := by simp [toI]
  refine ⟨toI (clashL S), clashI_no hS h0, by rw [hlen]; exact List.length_pos_iff.2 hne, clL_len S _, fun x hx => ?_, fun i x y hx hy => ?_, ⟨?_, ?_⟩, fun q hq => ?_⟩
  · obtain ⟨n, hn, rfl⟩ := List.mem_map.1 hx
    have := a2 n hn
    simp only [In]; omega
  · unfold toI at hx hy
    rw [List.getElem?_map] at hx hy
    obtain ⟨n, hn, rfl⟩ := Option.map_eq_some_iff.1 hx
    obtain ⟨m, hm, rfl⟩ := Option.map_eq_some_iff.1 hy
    obtain ⟨h1, e1⟩ := List.getElem?_eq_some_iff.1 hn
    obtain ⟨h2, e2⟩ := List.getElem?_eq_some_iff.1 hm
    have := List.pairwise_iff_getElem.1 a1 i (i + 1) h1 h2 (by omega)
    rw [e1, e2] at this
    omega
  · rw [onlyI_map]; exact only_ok hS a1 a2
  · rw [onlyI_map]; exact a3
  · have e : (toI (clashL S)).take q ++ (toI (clashL S)).drop (q + 1) = toI ((clashL S).take q ++ (clashL S).drop (q + 1)) := by simp [toI, List.map_take, List.map_drop]
    have hsub : ((clashL S).take q ++ (clashL S).drop (q + 1)).Sublist (clashL S) := by
      rw [← List.eraseIdx_eq_take_drop_succ]; exact List.eraseIdx_sublist _ _
    rw [e, onlyI_map]
    exact ⟨only_ok hS (a1.sublist hsub) (fun k hk => a2 k (hsub.subset hk)), a4 q (by rw [← hlen]; exact hq)⟩
theorem c8 (S : Sv) (p : Pl) (wh : Int) (gw : 0 ≤ wh ∧ wh ≤ 255) (h1 : S.shots.length ≤ 9223372036854775807) (h2 : S.marks.length ≤ 9223372036854775807) (h3 : S.thr.length ≤ 9223372036854775807) (w : World) (ha : SvAt w S p) :
    Calls Try.prog 8 #[.agg (encSv S p).toArray, .int .u8 wh] w (RetV w (.bool true)) := by
  refine enter (args := [.agg (encSv S p).toArray, .int .u8 wh]) Try.func8 rfl Try.ntmps8 rfl (SH.refl _) ?_
  repeat' (first | refine rn ?_ | (apply TL_box; exact rfl; exact rfl; exact rfl; intro _ _) | (apply TL_alloc; exact rfl; intro _ _) | (apply TL_buildSlice; exact rfl; exact rfl; exact rfl; exact rfl; exact rfl; intro _ _))
  rename_i b2 _
  refine TL_callV rfl rfl rfl (fun w _ => c35 w) ?_
  repeat' (first | refine rn ?_ | (apply TL_box; exact rfl; exact rfl; exact rfl; intro _ _) | (apply TL_alloc; exact rfl; intro _ _) | (apply TL_buildSlice; exact rfl; exact rfl; exact rfl; exact rfl; exact rfl; intro _ _))
  refine TL_callV rfl rfl rfl (fun w h => c36 S p h1 h2 h3 w (ha.mono h)) ?_
  by_cases hS : OkSv S
  rotate_left
  · rw [decide_eq_false hS]
    repeat' (first | refine rn ?_ | (apply TL_box; exact rfl; exact rfl; exact rfl; intro _ _) | (apply TL_alloc; exact rfl; intro _ _) | (apply TL_buildSlice; exact rfl; exact rfl; exact rfl; exact rfl; exact rfl; intro _ _))
    exact TQ_ret1 Try.results8 (RV.tmp rfl) (fun w' hs => ⟨rfl, hs.below⟩)
  rw [decide_eq_true hS]
  have hl1 := hS.2.1
  have hl2 := hS.2.2.1
  have hl3 := hS.2.2.2.1
  have c16' := fun w h => c16 S p (by omega) (by omega) (by omega) w h
  have c26' := fun w h => c26 S p (by omega) (by omega) (by omega) w h
  repeat' (first | refine rn ?_ | (apply TL_box; exact rfl; exact rfl; exact rfl; intro _ _) | (apply TL_alloc; exact rfl; intro _ _) | (apply TL_buildSlice; exact rfl; exact rfl; exact rfl; exact rfl; exact rfl; intro _ _))
  cases ok : okS S with
  | true =>
    rw [heightsF_ok hS ok] at c16'
    rw [clashI_ok hS ok] at c26'
    refine TL_callN rfl rfl rfl (fun w h => c16' w (ha.mono h)) ?_
    rintro ⟨so1, sc1, ob1⟩ hrow1
    change TL _ _ _ _ _ _ _ _ _ _ _
    dsimp only
    repeat' (first | refine rn ?_ | (apply TL_box; exact rfl; exact rfl; exact rfl; intro _ _) | (apply TL_alloc; exact rfl; intro _ _) | (apply TL_buildSlice; exact rfl; exact rfl; exact rfl; exact rfl; exact rfl; intro _ _))
    refine TL_callN rfl rfl rfl (fun w h => c26' w (ha.mono h)) ?_
    rintro ⟨so2, sc2, ob2⟩ hrow2
    change TL _ _ _ _ _ _ _ _ _ _ _
    dsimp only
    repeat' (first | (refine TL_eql_same rfl rfl rfl ?_) | refine r1 ?_ | (apply TL_box; exact rfl; exact rfl; exact rfl; intro _ _) | (apply TL_alloc; exact rfl; intro _ _) | (apply TL_buildSlice; exact rfl; exact rfl; exact rfl; exact rfl; exact rfl; intro _ _))
    exact TQ_ret1 Try.results8 (RV.tmp rfl) (fun w' hs => ⟨rfl, hs.below⟩)
  | false =>
    obtain ⟨l, e1, hpos, hlen, hin, hsort, ⟨hS1, ok1⟩, hfew⟩ := named_law hS ok
    rw [heightsF_no hS ok] at c16'
    rw [e1] at c26'
    refine TL_callN rfl rfl rfl (fun w h => c16' w (ha.mono h)) ?_
    rintro ⟨so1, sc1, ob1⟩ hrow1
    change TL _ _ _ _ _ _ _ _ _ _ _
    dsimp only
    repeat' (first | refine rn ?_ | (apply TL_box; exact rfl; exact rfl; exact rfl; intro _ _) | (apply TL_alloc; exact rfl; intro _ _) | (apply TL_buildSlice; exact rfl; exact rfl; exact rfl; exact rfl; exact rfl; intro _ _))
    refine TL_callN rfl rfl rfl (fun w h => c26' w (ha.mono h)) ?_
    rintro ⟨so2, sc2, ob2⟩ hrow2
    replace hrow2 : Row 3 1 encI so2 sc2 ob2 l := hrow2
    change TL _ _ _ _ _ _ _ _ _ _ _
    dsimp only
    repeat' (first | (refine TL_lss_f rfl rfl rfl (by first | omega | (dsimp only; omega)) ?_) | refine r1 ?_ | (apply TL_box; exact rfl; exact rfl; exact rfl; intro _ _) | (apply TL_alloc; exact rfl; intro _ _) | (apply TL_buildSlice; exact rfl; exact rfl; exact rfl; exact rfl; exact rfl; intro _ _))
    refine TC_loop (σ := Nat) (fun k => k ≤ l.length) (fun k => [(1, .int .u8 wh), (2, .pointer (some ⟨b2, 0, none⟩)), (5, .bool true), (7, .int .i64 11), (8, .slice so2 l.length sc2), (10, .func (.func 42) #[] #[.pointer (some ⟨b2, 0, none⟩)]), (60, .slice so2 l.length sc2), (61, .int .i64 l.length), (62, .int .i64 (k : Int))]) (fun _ => ob2 ++ (ob1 ++ ([(b2, .cells (encSv S p) 26)] : Hp))) (fun k => l.length - k) 0 (Nat.zero_le _) sb (fun w h => h) (fun k hk => ?_)
    repeat' (first | refine rn ?_ | (apply TL_box; exact rfl; exact rfl; exact rfl; intro _ _) | (apply TL_alloc; exact rfl; intro _ _) | (apply TL_buildSlice; exact rfl; exact rfl; exact rfl; exact rfl; exact rfl; intro _ _))
    refine TC_cond_dec rfl (fun g1 => ?_) (fun g1 => ?_)
    · have hlt : k < l.length := by omega
      obtain ⟨x, hx⟩ : ∃ x, l[k]? = some x := ⟨_, List.getElem?_eq_getElem hlt⟩
      have hxi := hin x (List.mem_of_getElem? hx)
      simp only [In] at hxi
      repeat' (first | refine rn ?_ | (apply TL_box; exact rfl; exact rfl; exact rfl; intro _ _) | (apply TL_alloc; exact rfl; intro _ _) | (apply TL_buildSlice; exact rfl; exact rfl; exact rfl; exact rfl; exact rfl; intro _ _))
      refine TL_index k rfl rfl rfl (fun w h => hrow2.sl h (fun x hx => by simp only [List.mem_append, List.mem_cons, hx, true_or, or_true])) rfl hlt (Nat.le_refl _) ?_
      refine TL_load_el1 (u := x) rfl rfl (fun w h => hrow2.sl h (fun x hx => by simp only [List.mem_append, List.mem_cons, hx, true_or, or_true])) hx rfl ?_
      rcases k with _ | k
      · repeat' (first | (refine TL_lss_f rfl rfl rfl (by omega) ?_) | (refine TL_geq_f rfl rfl rfl (by omega) ?_) | (refine TL_gtr_f rfl rfl rfl (by omega) ?_) | refine r1 ?_ | (apply TL_box; exact rfl; exact rfl; exact rfl; intro _ _) | (apply TL_alloc; exact rfl; intro _ _) | (apply TL_buildSlice; exact rfl; exact rfl; exact rfl; exact rfl; exact rfl; intro _ _))
        refine TQ_round (0 + 1) hlt (by omega) sb (fun w h => h)
      · obtain ⟨y, hy⟩ : ∃ y, l[k]? = some y := ⟨_, List.getElem?_eq_getElem (by omega)⟩
        have hxy := hsort k y x hy hx
        repeat' (first | (refine TL_lss_f rfl rfl rfl (by omega) ?_) | (refine TL_geq_f rfl rfl rfl (by omega) ?_) | (refine TL_gtr_t rfl rfl rfl (by omega) ?_) | refine r1 ?_ | (apply TL_box; exact rfl; exact rfl; exact rfl; intro _ _) | (apply TL_alloc; exact rfl; intro _ _) | (apply TL_buildSlice; exact rfl; exact rfl; exact rfl; exact rfl; exact rfl; intro _ _))
        refine TL_index k rfl rfl rfl (fun w h => hrow2.sl h (fun x hx => by simp only [List.mem_append, List.mem_cons, hx, true_or, or_true])) (by omega) (by omega) (Nat.le_refl _) ?_
        refine TL_guard_yes rfl rfl rfl ?_
        refine TL_load_el1 (u := y) rfl rfl (fun w h => hrow2.sl h (fun x hx => by simp only [List.mem_append, List.mem_cons, hx, true_or, or_true])) hy rfl ?_
        repeat' (first | (refine TL_leq_f rfl rfl rfl (by omega) ?_) | refine r1 ?_ | (apply TL_box; exact rfl; exact rfl; exact rfl; intro _ _) | (apply TL_alloc; exact rfl; intro _ _) | (apply TL_buildSlice; exact rfl; exact rfl; exact rfl; exact rfl; exact rfl; intro _ _))
        refine TQ_round (k + 1 + 1) hlt (by omega) sb (fun w h => h)
    have gk := mod_rg (n := (l.length : Int)) gw.1 (by omega)
    obtain ⟨q, hq⟩ : ∃ q : Nat, wh % (l.length : Int) = (q : Int) := ⟨(wh % (l.length : Int)).toNat, by omega⟩
    have hql : q < l.length := by omega
    have hle := hrow2.le
    obtain ⟨hS2, ok2⟩ := hfew q hql
    have hl1' := hS1.2.1
    have hl2' := hS1.2.2.1
    have hl1'' := hS2.2.1
    have hl2'' := hS2.2.2.1
    repeat' (first | (refine TL_conv_same rfl rfl (wrap_i64_in gw.1 (by omega)) ?_) | refine r1 ?_ | (apply TL_box; exact rfl; exact rfl; exact rfl; intro _ _) | (apply TL_alloc; exact rfl; intro _ _) | (apply TL_buildSlice; exact rfl; exact rfl; exact rfl; exact rfl; exact rfl; intro _ _))
    rw [hq]
    apply TC_draw 9; kernel_rfl; exact Try.mixed
    · (refine' PG.rel ((fun v h => ∃ b, v = .slice (some ⟨b, 0, none⟩) 0 0 ∧ h = [(b, .cells [] 3)])) rfl rfl (by intro _X; apply TL_buildSlice; exact rfl; exact rfl; exact rfl; exact rfl; exact rfl; intro b _; exact TL_nil (TQ_QR (h := [(b, _)]) rfl ⟨b, rfl, rfl⟩ (fun _ h => h))) ?_; rotate_left)
      iterate 2 (refine' pv ?_; rotate_left)
      (refine' PG.val rfl rfl (by intro _X; refine TL_sliceTo q rfl rfl rfl rfl (by omega) ?_; exact qe) ?_; rotate_left)
      (refine' PG.rel ((fun v h => ∃ a c, v = .slice a q c ∧ RowE 3 1 encI a c h (l.take q))) rfl rfl (by rintro _ _ ⟨b0, rfl, rfl⟩ _X; refine TL_append0 (l2 := l.take q) (enc := encI) rfl (by rfl) rfl rfl (by rw [List.length_take]; omega) (fun w h => ((hrow2.sl h (fun x hx => by simp only [List.mem_append, List.mem_cons, hx, true_or, or_true])).drop 0 sc2 hle).take q) (fun u _ => rfl) (by rw [List.length_take]; omega) (by rw [List.length_take]; simp only [maxLen]; omega) (fun a c o hr => ?_); exact TL_nil (TQ_QR (h := o) rfl ⟨a, c, by rw [List.length_take, Nat.min_eq_left (by omega)], hr⟩ (fun _ h => h))) ?_; rotate_left)
      iterate 3 (refine' pv ?_; rotate_left)
      (refine' PG.val rfl rfl (by intro _X; refine TL_sliceFrom (q + 1) rfl rfl rfl (by omega) (by omega) ?_; exact qe) ?_; rotate_left)
      exact PG.nil
    rintro _ _ ⟨a3, c3, rfl, hr3⟩ _ _ ⟨b0, rfl, rfl⟩
    change TL _ _ _ _ _ _ _ _ _ _ _
    rename_i o3
    refine TL_appendE0 (l := l.take q) (l2 := l.drop (q + 1)) (enc := encI) (ob := o3) (G := _) rfl (by rfl) rfl (by rw [List.length_take]; omega) rfl (by rw [List.length_drop]) hr3 (List.Perm.of_eq (List.append_assoc _ _ _).symm) (fun w h => (hrow2.sl h (fun x hx => by simp only [List.mem_append, List.mem_cons, hx, true_or, or_true])).drop (q + 1) sc2 hle) (fun u _ => rfl) (by rw [List.length_take, List.length_drop]; omega) (by rw [List.length_take, List.length_drop]; simp only [maxLen]; omega) (fun a4 c4 o4 hr4 => ?_)
    have hfl : (l.take q ++ l.drop (q + 1)).length ≤ 80 := by rw [List.length_append, List.length_take, List.length_drop]; omega
    have hfin : ∀ x ∈ l.take q ++ l.drop (q + 1), In x 0 ((S.shots.length : Int) + S.marks.length - 1) := fun x hx => by
      rcases List.mem_append.1 hx with h | h
      · exact hin x (List.mem_of_mem_take h)
      · exact hin x (List.mem_of_mem_drop h)
    generalize l.take q ++ l.drop (q + 1) = few at *
    repeat' (first | refine rn ?_ | (apply TL_box; exact rfl; exact rfl; exact rfl; intro _ _) | (apply TL_alloc; exact rfl; intro _ _) | (apply TL_buildSlice; exact rfl; exact rfl; exact rfl; exact rfl; exact rfl; intro _ _))
    refine TL_call rfl rfl rfl _ _ _ (fun w h => c42 S hS p l so2 sc2 (by omega) hin (fun h => ha.mono h) b2 _ (fun h hm => hrow2.sl h (fun x hx => hm x (by simp only [List.mem_append, List.mem_cons, hx, true_or, or_true]))) (by simp only [List.mem_append, List.mem_cons, true_or, or_true]) w h) (fun z1 hz1 => ?_)
    have d16 := fun w h => c16 (onlyI S l) z1.p (by omega) (by omega) (by simp [onlyI]) w h
    rw [heightsF_no hS1 ok1] at d16
    repeat' (first | refine rn ?_ | (apply TL_box; exact rfl; exact rfl; exact rfl; intro _ _) | (apply TL_alloc; exact rfl; intro _ _) | (apply TL_buildSlice; exact rfl; exact rfl; exact rfl; exact rfl; exact rfl; intro _ _))
    refine TL_callN rfl rfl rfl (fun w h => d16 w (hz1.sv h (fun x hx => by simp only [List.mem_append, List.mem_cons, hx, true_or, or_true]) (fun x hx => by simp only [List.mem_append, List.mem_cons, hx, true_or, or_true]))) ?_
    rintro ⟨so5, sc5, ob5⟩ hrow5
    change TL _ _ _ _ _ _ _ _ _ _ _
    dsimp only
    repeat' (first | refine rn ?_ | (apply TL_box; exact rfl; exact rfl; exact rfl; intro _ _) | (apply TL_alloc; exact rfl; intro _ _) | (apply TL_buildSlice; exact rfl; exact rfl; exact rfl; exact rfl; exact rfl; intro _ _))
    refine TL_call rfl rfl rfl _ _ _ (fun w h => c42 S hS p few a4 c4 (by omega) hfin (fun h => ha.mono h) b2 _ (fun h hm => hr4.sl h (fun x hx => hm x (by simp only [List.mem_append, List.mem_cons, hx, true_or, or_true]))) (by simp only [List.mem_append, List.mem_cons, true_or, or_true]) w h) (fun z2 hz2 => ?_)
    have e16 := fun w h => c16 (onlyI S few) z2.p (by omega) (by omega) (by simp [onlyI]) w h
    rw [heightsF_ok hS2 ok2] at e16
    repeat' (first | refine rn ?_ | (apply TL_box; exact rfl; exact rfl; exact rfl; intro _ _) | (apply TL_alloc; exact rfl; intro _ _) | (apply TL_buildSlice; exact rfl; exact rfl; exact rfl; exact rfl; exact rfl; intro _ _))
    refine TL_callN rfl rfl rfl (fun w h => e16 w (hz2.sv h (fun x hx => by simp only [List.mem_append, List.mem_cons, hx, true_or, or_true]) (fun x hx => by simp only [List.mem_append, List.mem_cons, hx, true_or, or_true]))) ?_
    rintro ⟨so6, sc6, ob6⟩ hrow6
    change TL _ _ _ _ _ _ _ _ _ _ _
    dsimp only
    repeat' (first | (refine TL_eql_same rfl rfl rfl ?_) | refine r1 ?_ | (apply TL_box; exact rfl; exact rfl; exact rfl; intro _ _) | (apply TL_alloc; exact rfl; intro _ _) | (apply TL_buildSlice; exact rfl; exact rfl; exact rfl; exact rfl; exact rfl; intro _ _))
    exact TQ_ret1 Try.results8 (RV.tmp rfl) (fun w' hs => ⟨rfl, hs.below⟩)
end Go.Proofs.Ytoolblbdmmiahaa
