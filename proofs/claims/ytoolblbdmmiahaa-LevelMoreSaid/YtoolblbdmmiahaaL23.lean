/- Walk: truth. -/
import Derived.Test.YtoolblbdmmiahaaL22
namespace Go.Proofs.Ytoolblbdmmiahaa
open Go Go.Eng Go.RowKit Go.Proofs
set_option maxHeartbeats 4000000
set_option maxRecDepth 10000
attribute [local irreducible] TL TC TQ

def mapTo {α : Type} (f : Nat → α → α) (l : List α) (n : Nat) : List α := l.mapIdx (fun i x => if i < n then f i x else x)
theorem mapTo_len {α : Type} (f : Nat → α → α) (l : List α) (n : Nat) : (mapTo f l n).length = l.length := by simp [mapTo]
theorem mapTo_get {α : Type} (f : Nat → α → α) (l : List α) (n i : Nat) : (mapTo f l n)[i]? = (l[i]?).map (fun x => if i < n then f i x else x) := by simp [mapTo]
theorem mapTo_zero {α : Type} (f : Nat → α → α) (l : List α) : mapTo f l 0 = l := by
  apply List.ext_getElem?; intro i; rw [mapTo_get]; simp
theorem mapTo_all {α : Type} (f : Nat → α → α) (l : List α) {n : Nat} (h : l.length ≤ n) : mapTo f l n = l.mapIdx f := by
  apply List.ext_getElem?; intro i; rw [mapTo_get, List.getElem?_mapIdx]
  cases hi : l[i]? with
  | none => rfl
  | some x =>
    have := (List.getElem?_eq_some_iff.1 hi).1
    simp only [Option.map_some]; rw [if_pos (by omega)]
theorem mapTo_set {α : Type} (f : Nat → α → α) (l : List α) {n : Nat} {u : α} (h : l[n]? = some u) : (mapTo f l n).set n (f n u) = mapTo f l (n + 1) := by
  have hlt := (List.getElem?_eq_some_iff.1 h).1
  apply List.ext_getElem?; intro i
  rw [List.getElem?_set, mapTo_get, mapTo_get]
  by_cases hi : n = i
  · subst hi; rw [if_pos rfl, mapTo_len, if_pos hlt, h]; simp
  · rw [if_neg hi]
    cases l[i]? with
    | none => rfl
    | some x =>
      simp only [Option.map_some]
      by_cases h2 : i < n
      · rw [if_pos h2, if_pos (by omega)]
      · rw [if_neg h2, if_neg (by omega)]
theorem mapTo_here {α : Type} (f : Nat → α → α) (l : List α) {n : Nat} {u : α} (h : l[n]? = some u) : (mapTo f l n)[n]? = some u := by
  rw [mapTo_get, h]; simp
/-- The first k true heights. -/
def hL (l : List Int) (k : Nat) : List Int := (List.range k).map (fun i : Nat => trueH l (i : Int))
theorem hL_len (l : List Int) (k : Nat) : (hL l k).length = k := by simp [hL]
theorem hL_succ (l : List Int) (k : Nat) : hL l (k + 1) = hL l k ++ [trueH l (k : Int)] := by simp [hL, List.range_succ]
theorem hL_get (l : List Int) {k i : Nat} (h : i < k) : (hL l k)[i]? = some (trueH l (i : Int)) := by simp [hL, h]
theorem hL_get' (l : List Int) {k : Nat} {i : Int} (h0 : 0 ≤ i) (h : i < (k : Int)) : (hL l k)[i.toNat]? = some (trueH l i) := by
  rw [hL_get l (by omega), Int.toNat_of_nonneg h0]
theorem encSv_truth (S : Sv) (l : List Int) (p : Pl) : encSv (truthS S l) p = encSv S p := by simp [encSv, truthS]
theorem RowE.len0 {α : Type} {T : TypeId} {k : Nat} {enc : α → List Value} {ao : Option Addr} {cap : Nat} {ob : Hp} {l l' : List α} (h : RowE T k enc ao cap ob l) (e : l = l') : RowE T k enc ao cap ob l' := e ▸ h
theorem c37 (S : Sv) (hS : OkSv S) (p : Pl) (l : List Int) (lo : Option Addr) (lc : Nat) (h4 : l.length ≤ 9223372036854775807) (w : World) (ha : SvAt w S p) (hb : Sl w 1 encI lo l) :
    Calls Try.prog 37 #[.agg (encSv S p).toArray, .slice lo l.length lc] w (RetP w.heap.size w (fun q : (Option Addr × Nat × Hp) × Tw => .tuple #[.slice q.1.1 (hL l S.pts.toNat).length q.1.2.1, .agg (encSv (truthS S l) q.2.p).toArray]) (fun q => q.1.2.2 ++ q.2.hp)
      (fun q => Row 3 1 encI q.1.1 q.1.2.1 q.1.2.2 (hL l S.pts.toNat) ∧ TwAt (truthS S l) q.2)) := by
  have hp := hS.1
  simp only [In] at hp
  have hl1 := hS.2.1
  have hl2 := hS.2.2.1
  have hl3 := hS.2.2.2.1
  refine enter (args := [.agg (encSv S p).toArray, .slice lo l.length lc]) Try.func37 rfl Try.ntmps37 rfl (SH.refl _) ?_
  repeat' (first | refine rn ?_ | (apply TL_box; exact rfl; exact rfl; exact rfl; intro _ _) | (apply TL_alloc; exact rfl; intro _ _) | (apply TL_buildSlice; exact rfl; exact rfl; exact rfl; exact rfl; exact rfl; intro _ _))
  rename_i b2 _ b5 _
  refine TC_loop (σ := Nat × Option Addr × Nat × Hp) (fun q => q.1 ≤ S.pts.toNat ∧ Row 3 1 encI q.2.1 q.2.2.1 q.2.2.2 (hL l q.1)) (fun q => [(1, .slice lo l.length lc), (2, .pointer (some ⟨b2, 0, none⟩)), (5, .pointer (some ⟨b5, 0, none⟩)), (6, .slice q.2.1 (hL l q.1).length q.2.2.1), (14, .int .i64 S.pts), (15, .int .i64 (q.1 : Int))])
    (fun q => q.2.2.2 ++ ([(b5, .cells [.int .i64 0, .slice none 0 0, .slice none 0 0, .slice none 0 0] 26), (b2, .cells (encSv S p) 26)] : Hp)) (fun q => S.pts.toNat - q.1) (0, none, 0, []) ⟨Nat.zero_le _, Row.nil _ _ _⟩ sb (fun w h => h) (fun q hq => ?_)
  obtain ⟨k, so, sc, ob⟩ := q
  obtain ⟨hk, hrow⟩ := hq
  dsimp only at hk hrow ⊢
  repeat' (first | refine rn ?_ | (apply TL_box; exact rfl; exact rfl; exact rfl; intro _ _) | (apply TL_alloc; exact rfl; intro _ _) | (apply TL_buildSlice; exact rfl; exact rfl; exact rfl; exact rfl; exact rfl; intro _ _))
  refine TC_cond_dec rfl (fun g1 => ?_) (fun g1 => ?_)
  · have hlt : k < S.pts.toNat := by omega
    have hpt := partN_rg (n := 2000) (by omega) l (k : Int)
    have hs1 := hL_succ l k
    have hln := hL_len l k
    repeat' (first | refine rn ?_ | (apply TL_box; exact rfl; exact rfl; exact rfl; intro _ _) | (apply TL_alloc; exact rfl; intro _ _) | (apply TL_buildSlice; exact rfl; exact rfl; exact rfl; exact rfl; exact rfl; intro _ _))
    refine TL_callV rfl rfl rfl (fun w h => c38 2000 l (k : Int) (by omega) (by omega) lo lc h4 w (h.sl hb)) ?_
    repeat' (first | refine rn ?_ | (apply TL_box; exact rfl; exact rfl; exact rfl; intro _ _) | (apply TL_alloc; exact rfl; intro _ _) | (apply TL_buildSlice; exact rfl; exact rfl; exact rfl; exact rfl; exact rfl; intro _ _))
    refine TL_append (l := hL l k) (l2 := [trueH l (k : Int)]) (enc := encI) (G := _) rfl (by rfl) rfl rfl rfl rfl rfl hrow (pm_cons pm_here) (fun w h => Sl.of_blk h mm (fun _ _ => rfl) ⟨[], by rfl⟩) (fun u _ => rfl) (by simp only [List.length_singleton]; omega) (by simp only [List.length_singleton, maxLen]; omega) (fun so' sc' ob' hrow' => ?_)
    rw [← hs1] at hrow' ⊢
    repeat' (first | refine rn ?_ | (apply TL_box; exact rfl; exact rfl; exact rfl; intro _ _) | (apply TL_alloc; exact rfl; intro _ _) | (apply TL_buildSlice; exact rfl; exact rfl; exact rfl; exact rfl; exact rfl; intro _ _))
    refine TQ_round (k + 1, so', sc', ob') ⟨by dsimp only; omega, hrow'⟩ (by dsimp only; omega) sb (fun w h => h.sub (List.Sublist.append_left (List.Sublist.cons _ (List.Sublist.refl _)) _))
  have hk' : k = S.pts.toNat := by omega
  subst hk'
  have hHl := hL_len l S.pts.toNat
  repeat' (first | refine rn ?_ | (apply TL_box; exact rfl; exact rfl; exact rfl; intro _ _) | (apply TL_alloc; exact rfl; intro _ _) | (apply TL_buildSlice; exact rfl; exact rfl; exact rfl; exact rfl; exact rfl; intro _ _))
  refine TL_callN rfl rfl rfl (fun w h => c15 S p (by omega) (by omega) (by omega) w (ha.mono h)) ?_
  rintro z hz
  change TL _ _ _ _ _ _ _ _ _ _ _
  repeat' (first | refine rn ?_ | (apply TL_box; exact rfl; exact rfl; exact rfl; intro _ _) | (apply TL_alloc; exact rfl; intro _ _) | (apply TL_buildSlice; exact rfl; exact rfl; exact rfl; exact rfl; exact rfl; intro _ _))
  refine TC_loop (σ := Nat × Hp) (fun q => q.1 ≤ S.shots.length ∧ RowE 78 4 encSh z.p.a1 z.p.c1 q.2 (mapTo (trueSh l) S.shots q.1)) (fun q => [(1, .slice lo l.length lc), (2, .pointer (some ⟨b2, 0, none⟩)), (5, .pointer (some ⟨b5, 0, none⟩)), (6, .slice so (hL l S.pts.toNat).length sc), (30, .int .i64 S.shots.length), (31, .int .i64 (q.1 : Int))])
    (fun q => z.o3 ++ (z.o2 ++ (q.2 ++ (ob ++ ([(b5, .cells [.int .i64 0, .slice none 0 0, .slice none 0 0, .slice none 0 0] 26), (b2, .cells (encSv S z.p) 26)] : Hp))))) (fun q => S.shots.length - q.1) (0, z.o1) ⟨Nat.zero_le _, by rw [mapTo_zero]; exact hz.r1⟩ sb (fun w h => by simpa only [Tw.hp, List.append_assoc, encSv] using h) (fun q hq => ?_)
  obtain ⟨k, o1⟩ := q
  obtain ⟨hk, hr1⟩ := hq
  dsimp only at hk hr1 ⊢
  have hm1 := mapTo_len (trueSh l) S.shots k
  repeat' (first | refine rn ?_ | (apply TL_box; exact rfl; exact rfl; exact rfl; intro _ _) | (apply TL_alloc; exact rfl; intro _ _) | (apply TL_buildSlice; exact rfl; exact rfl; exact rfl; exact rfl; exact rfl; intro _ _))
  refine TC_cond_dec rfl (fun g2 => ?_) (fun g2 => ?_)
  · have hlt : k < S.shots.length := by omega
    obtain ⟨x, hx⟩ : ∃ x, S.shots[k]? = some x := ⟨_, List.getElem?_eq_getElem hlt⟩
    have hx1 := mapTo_here (trueSh l) S.shots hx
    have hs1 := mapTo_set (trueSh l) S.shots hx
    have hne : mapTo (trueSh l) S.shots k ≠ [] := fun h => by rw [h] at hx1; simp at hx1
    obtain ⟨⟨i1, i2, i3⟩, hox⟩ := hS.2.2.2.2.1 x (List.mem_of_getElem? hx)
    simp only [In] at i1 i2
    have t1 := trueH_B l x.fr
    have t2 := trueH_B l x.to
    have p1 := partN_rg (n := 40) (by omega) l ((k : Int) + 3)
    have p2 := partN_rg (n := 40) (by omega) l ((k : Int) + 5)
    repeat' (first | refine rn ?_ | (apply TL_box; exact rfl; exact rfl; exact rfl; intro _ _) | (apply TL_alloc; exact rfl; intro _ _) | (apply TL_buildSlice; exact rfl; exact rfl; exact rfl; exact rfl; exact rfl; intro _ _))
    refine TL_index k rfl rfl rfl (fun w h => hr1.sl h (fun x hx => by simp only [List.mem_append, List.mem_cons, hx, true_or, or_true])) rfl (by omega) (by omega) ?_
    repeat' (first | refine rn ?_ | (apply TL_box; exact rfl; exact rfl; exact rfl; intro _ _) | (apply TL_alloc; exact rfl; intro _ _) | (apply TL_buildSlice; exact rfl; exact rfl; exact rfl; exact rfl; exact rfl; intro _ _))
    apply TC_draw 15; kernel_rfl; exact Try.mixed
    · iterate 2 (refine' pv ?_; rotate_left)
      (refine' PG.val rfl rfl (by intro _X; refine TL_nilCheck rfl rfl ?_; exact qe) ?_; rotate_left)
      (refine' PG.val rfl rfl (by intro _X; refine TL_fieldAddr_el rfl rfl (fun w h => hr1.sl h (fun x hx => by simp only [List.mem_append, List.mem_cons, hx, true_or, or_true])) hne ?_; exact qe) ?_; rotate_left)
      (refine' PG.val rfl rfl (by intro _X; refine TL_load_el1 (u := x) rfl rfl (fun w h => hr1.sl h (fun x hx => by simp only [List.mem_append, List.mem_cons, hx, true_or, or_true])) hx1 rfl ?_; exact qe) ?_; rotate_left)
      (refine' PG.val rfl rfl (by intro _X; refine TL_index x.to.toNat rfl rfl rfl (fun w h => hrow.sl h (fun x hx => by simp only [List.mem_append, List.mem_cons, hx, true_or, or_true])) (by omega) (by omega) (Nat.le_refl _) ?_; exact qe) ?_; rotate_left)
      (refine' PG.val rfl rfl (by intro _X; refine TL_load_el1 (u := trueH l x.to) rfl rfl (fun w h => hrow.sl h (fun x hx => by simp only [List.mem_append, List.mem_cons, hx, true_or, or_true])) (hL_get' l (by omega) (by omega)) rfl ?_; exact qe) ?_; rotate_left)
      iterate 2 (refine' pv ?_; rotate_left)
      (refine' PG.val rfl rfl (by intro _X; refine TL_nilCheck rfl rfl ?_; exact qe) ?_; rotate_left)
      (refine' PG.val rfl rfl (by intro _X; refine TL_fieldAddr_el rfl rfl (fun w h => hr1.sl h (fun x hx => by simp only [List.mem_append, List.mem_cons, hx, true_or, or_true])) hne ?_; exact qe) ?_; rotate_left)
      (refine' PG.val rfl rfl (by intro _X; refine TL_load_el1 (u := x) rfl rfl (fun w h => hr1.sl h (fun x hx => by simp only [List.mem_append, List.mem_cons, hx, true_or, or_true])) hx1 rfl ?_; exact qe) ?_; rotate_left)
      (refine' PG.val rfl rfl (by intro _X; refine TL_index x.fr.toNat rfl rfl rfl (fun w h => hrow.sl h (fun x hx => by simp only [List.mem_append, List.mem_cons, hx, true_or, or_true])) (by omega) (by omega) (Nat.le_refl _) ?_; exact qe) ?_; rotate_left)
      (refine' PG.val rfl rfl (by intro _X; refine TL_load_el1 (u := trueH l x.fr) rfl rfl (fun w h => hrow.sl h (fun x hx => by simp only [List.mem_append, List.mem_cons, hx, true_or, or_true])) (hL_get' l (by omega) (by omega)) rfl ?_; exact qe) ?_; rotate_left)
      (refine' pv ?_; rotate_left)
      exact PG.nil
    change TL _ _ _ _ _ _ _ _ _ _ _
    repeat' (first | refine rn ?_ | (apply TL_box; exact rfl; exact rfl; exact rfl; intro _ _) | (apply TL_alloc; exact rfl; intro _ _) | (apply TL_buildSlice; exact rfl; exact rfl; exact rfl; exact rfl; exact rfl; intro _ _))
    refine TL_callV rfl rfl rfl (fun w h => c38 40 l ((k : Int) + 3) (by omega) (by omega) lo lc h4 w (h.sl hb)) ?_
    repeat' (first | refine rn ?_ | (apply TL_box; exact rfl; exact rfl; exact rfl; intro _ _) | (apply TL_alloc; exact rfl; intro _ _) | (apply TL_buildSlice; exact rfl; exact rfl; exact rfl; exact rfl; exact rfl; intro _ _))
    refine TL_callV rfl rfl rfl (fun w h => c38 40 l ((k : Int) + 5) (by omega) (by omega) lo lc h4 w (h.sl hb)) ?_
    repeat' (first | refine rn ?_ | (apply TL_box; exact rfl; exact rfl; exact rfl; intro _ _) | (apply TL_alloc; exact rfl; intro _ _) | (apply TL_buildSlice; exact rfl; exact rfl; exact rfl; exact rfl; exact rfl; intro _ _))
    refine TL_callV rfl rfl rfl (fun w _ => c39 (trueH l x.to - trueH l x.fr - partN 40 l ((k : Int) + 3)) (trueH l x.to - trueH l x.fr + partN 40 l ((k : Int) + 5)) w) ?_
    refine TL_nilCheck rfl rfl ?_
    refine TL_fieldAddr_el rfl rfl (fun w h => hr1.sl h (fun x hx => by simp only [List.mem_append, List.mem_cons, hx, true_or, or_true])) hne ?_
    refine TL_store_el (u := x) (u' := trueSh l k x) (f := fun y => z.o3 ++ (z.o2 ++ (y ++ (ob ++ ([(b5, .cells [.int .i64 0, .slice none 0 0, .slice none 0 0, .slice none 0 0] 26), (b2, .cells (encSv S z.p) 26)] : Hp))))) (hr1.row hne) rfl rfl rfl rfl rfl rfl hx1 rfl rfl (fun _ _ _ => up) (fun o1' hr1' => ?_)
    rw [hs1] at hr1'
    repeat' (first | refine rn ?_ | (apply TL_box; exact rfl; exact rfl; exact rfl; intro _ _) | (apply TL_alloc; exact rfl; intro _ _) | (apply TL_buildSlice; exact rfl; exact rfl; exact rfl; exact rfl; exact rfl; intro _ _))
    refine TQ_round (k + 1, o1') ⟨by dsimp only; omega, .inl hr1'⟩ (by dsimp only; omega) sb (fun w h => h)
  have hk' : k = S.shots.length := by omega
  subst hk'
  rw [mapTo_all _ _ (Nat.le_refl _)] at hr1
  clear hm1
  repeat' (first | refine rn ?_ | (apply TL_box; exact rfl; exact rfl; exact rfl; intro _ _) | (apply TL_alloc; exact rfl; intro _ _) | (apply TL_buildSlice; exact rfl; exact rfl; exact rfl; exact rfl; exact rfl; intro _ _))
  refine TC_loop (σ := Nat × Hp) (fun q => q.1 ≤ S.marks.length ∧ RowE 75 3 encMk z.p.a2 z.p.c2 q.2 (mapTo (trueMk l) S.marks q.1)) (fun q => [(1, .slice lo l.length lc), (2, .pointer (some ⟨b2, 0, none⟩)), (5, .pointer (some ⟨b5, 0, none⟩)), (6, .slice so (hL l S.pts.toNat).length sc), (72, .int .i64 S.marks.length), (73, .int .i64 (q.1 : Int))])
    (fun q => z.o3 ++ (q.2 ++ (o1 ++ (ob ++ ([(b5, .cells [.int .i64 0, .slice none 0 0, .slice none 0 0, .slice none 0 0] 26), (b2, .cells (encSv S z.p) 26)] : Hp))))) (fun q => S.marks.length - q.1) (0, z.o2) ⟨Nat.zero_le _, by rw [mapTo_zero]; exact hz.r2⟩ sb (fun w h => h) (fun q hq => ?_)
  obtain ⟨k, o2⟩ := q
  obtain ⟨hk, hr2⟩ := hq
  dsimp only at hk hr2 ⊢
  have hm1 := mapTo_len (trueMk l) S.marks k
  repeat' (first | refine rn ?_ | (apply TL_box; exact rfl; exact rfl; exact rfl; intro _ _) | (apply TL_alloc; exact rfl; intro _ _) | (apply TL_buildSlice; exact rfl; exact rfl; exact rfl; exact rfl; exact rfl; intro _ _))
  refine TC_cond_dec rfl (fun g2 => ?_) (fun g2 => ?_)
  · have hlt : k < S.marks.length := by omega
    obtain ⟨x, hx⟩ : ∃ x, S.marks[k]? = some x := ⟨_, List.getElem?_eq_getElem hlt⟩
    have hx1 := mapTo_here (trueMk l) S.marks hx
    have hs1 := mapTo_set (trueMk l) S.marks hx
    have hne : mapTo (trueMk l) S.marks k ≠ [] := fun h => by rw [h] at hx1; simp at hx1
    obtain ⟨i1, hox⟩ := hS.2.2.2.2.2.1 x (List.mem_of_getElem? hx)
    simp only [In] at i1
    have t1 := trueH_B l x.pt
    have p1 := partN_rg (n := 30) (by omega) l ((k : Int) + 7)
    have p2 := partN_rg (n := 30) (by omega) l ((k : Int) + 9)
    repeat' (first | refine rn ?_ | (apply TL_box; exact rfl; exact rfl; exact rfl; intro _ _) | (apply TL_alloc; exact rfl; intro _ _) | (apply TL_buildSlice; exact rfl; exact rfl; exact rfl; exact rfl; exact rfl; intro _ _))
    refine TL_index k rfl rfl rfl (fun w h => hr2.sl h (fun x hx => by simp only [List.mem_append, List.mem_cons, hx, true_or, or_true])) rfl (by omega) (by omega) ?_
    repeat' (first | refine rn ?_ | (apply TL_box; exact rfl; exact rfl; exact rfl; intro _ _) | (apply TL_alloc; exact rfl; intro _ _) | (apply TL_buildSlice; exact rfl; exact rfl; exact rfl; exact rfl; exact rfl; intro _ _))
    apply TC_draw 26; kernel_rfl; exact Try.mixed
    · iterate 3 (refine' pv ?_; rotate_left)
      (refine' PG.val rfl rfl (by intro _X; refine TL_nilCheck rfl rfl ?_; exact qe) ?_; rotate_left)
      (refine' PG.val rfl rfl (by intro _X; refine TL_fieldAddr_el rfl rfl (fun w h => hr2.sl h (fun x hx => by simp only [List.mem_append, List.mem_cons, hx, true_or, or_true])) hne ?_; exact qe) ?_; rotate_left)
      (refine' PG.val rfl rfl (by intro _X; refine TL_load_el1 (u := x) rfl rfl (fun w h => hr2.sl h (fun x hx => by simp only [List.mem_append, List.mem_cons, hx, true_or, or_true])) hx1 rfl ?_; exact qe) ?_; rotate_left)
      (refine' PG.val rfl rfl (by intro _X; refine TL_index x.pt.toNat rfl rfl rfl (fun w h => hrow.sl h (fun x hx => by simp only [List.mem_append, List.mem_cons, hx, true_or, or_true])) (by omega) (by omega) (Nat.le_refl _) ?_; exact qe) ?_; rotate_left)
      (refine' PG.val rfl rfl (by intro _X; refine TL_load_el1 (u := trueH l x.pt) rfl rfl (fun w h => hrow.sl h (fun x hx => by simp only [List.mem_append, List.mem_cons, hx, true_or, or_true])) (hL_get' l (by omega) (by omega)) rfl ?_; exact qe) ?_; rotate_left)
      iterate 3 (refine' pv ?_; rotate_left)
      (refine' PG.val rfl rfl (by intro _X; refine TL_callV rfl rfl rfl (fun w h => c38 30 l ((k : Int) + 7) (by omega) (by omega) lo lc h4 w (h.sl hb)) ?_; exact qe) ?_; rotate_left)
      iterate 3 (refine' pv ?_; rotate_left)
      (refine' PG.val rfl rfl (by intro _X; refine TL_nilCheck rfl rfl ?_; exact qe) ?_; rotate_left)
      (refine' PG.val rfl rfl (by intro _X; refine TL_fieldAddr_el rfl rfl (fun w h => hr2.sl h (fun x hx => by simp only [List.mem_append, List.mem_cons, hx, true_or, or_true])) hne ?_; exact qe) ?_; rotate_left)
      (refine' PG.val rfl rfl (by intro _X; refine TL_load_el1 (u := x) rfl rfl (fun w h => hr2.sl h (fun x hx => by simp only [List.mem_append, List.mem_cons, hx, true_or, or_true])) hx1 rfl ?_; exact qe) ?_; rotate_left)
      (refine' PG.val rfl rfl (by intro _X; refine TL_index x.pt.toNat rfl rfl rfl (fun w h => hrow.sl h (fun x hx => by simp only [List.mem_append, List.mem_cons, hx, true_or, or_true])) (by omega) (by omega) (Nat.le_refl _) ?_; exact qe) ?_; rotate_left)
      (refine' PG.val rfl rfl (by intro _X; refine TL_load_el1 (u := trueH l x.pt) rfl rfl (fun w h => hrow.sl h (fun x hx => by simp only [List.mem_append, List.mem_cons, hx, true_or, or_true])) (hL_get' l (by omega) (by omega)) rfl ?_; exact qe) ?_; rotate_left)
      iterate 3 (refine' pv ?_; rotate_left)
      (refine' PG.val rfl rfl (by intro _X; refine TL_callV rfl rfl rfl (fun w h => c38 30 l ((k : Int) + 9) (by omega) (by omega) lo lc h4 w (h.sl hb)) ?_; exact qe) ?_; rotate_left)
      (refine' pv ?_; rotate_left)
      (refine' PG.val rfl rfl (by intro _X; refine TL_callV rfl rfl rfl (fun w _ => c39 (trueH l x.pt - partN 30 l ((k : Int) + 7)) (trueH l x.pt + partN 30 l ((k : Int) + 9)) w) ?_; exact qe) ?_; rotate_left)
      exact PG.nil
    change TL _ _ _ _ _ _ _ _ _ _ _
    refine TL_nilCheck rfl rfl ?_
    refine TL_fieldAddr_el rfl rfl (fun w h => hr2.sl h (fun x hx => by simp only [List.mem_append, List.mem_cons, hx, true_or, or_true])) hne ?_
    refine TL_store_el (u := x) (u' := trueMk l k x) (f := fun y => z.o3 ++ (y ++ (o1 ++ (ob ++ ([(b5, .cells [.int .i64 0, .slice none 0 0, .slice none 0 0, .slice none 0 0] 26), (b2, .cells (encSv S z.p) 26)] : Hp))))) (hr2.row hne) rfl rfl rfl rfl rfl rfl hx1 rfl rfl (fun _ _ _ => up) (fun o2' hr2' => ?_)
    rw [hs1] at hr2'
    repeat' (first | refine rn ?_ | (apply TL_box; exact rfl; exact rfl; exact rfl; intro _ _) | (apply TL_alloc; exact rfl; intro _ _) | (apply TL_buildSlice; exact rfl; exact rfl; exact rfl; exact rfl; exact rfl; intro _ _))
    refine TQ_round (k + 1, o2') ⟨by dsimp only; omega, .inl hr2'⟩ (by dsimp only; omega) sb (fun w h => h)
  have hk' : k = S.marks.length := by omega
  subst hk'
  rw [mapTo_all _ _ (Nat.le_refl _)] at hr2
  repeat' (first | refine rn ?_ | (apply TL_box; exact rfl; exact rfl; exact rfl; intro _ _) | (apply TL_alloc; exact rfl; intro _ _) | (apply TL_buildSlice; exact rfl; exact rfl; exact rfl; exact rfl; exact rfl; intro _ _))
  apply TC_draw 3; kernel_rfl; exact Try.mixed
  · iterate 3 (refine' pv ?_; rotate_left)
    exact PG.nil
  change TL _ _ _ _ _ _ _ _ _ _ _
  repeat' (first | refine rn ?_ | (apply TL_box; exact rfl; exact rfl; exact rfl; intro _ _) | (apply TL_alloc; exact rfl; intro _ _) | (apply TL_buildSlice; exact rfl; exact rfl; exact rfl; exact rfl; exact rfl; intro _ _))
  refine TQ_ret2 Try.results37 (RV.tmp rfl) (RV.celln rfl mm (by rfl)) (fun w' hs => ⟨((so, sc, ob), ⟨z.p, o1, o2, z.o3⟩), ⟨hrow, ⟨hr1, hr2, hz.r3⟩⟩, (by show _ = Ending.returned (.tuple #[_, .agg (encSv (truthS S l) z.p).toArray]); rw [encSv_truth]; rfl), SH.perm (H := z.o3 ++ (o2 ++ (o1 ++ ob))) (hs.sub (List.Sublist.append_left (List.Sublist.append_left (List.Sublist.append_left (List.sublist_append_left _ _) _) _) _)) (by have := @List.perm_append_comm _ ob (z.o3 ++ (o2 ++ o1)); simpa only [Tw.hp, List.append_assoc] using this)⟩)
end Go.Proofs.Ytoolblbdmmiahaa
