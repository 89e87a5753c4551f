/- Walks: the bounds that a survey's readings say. -/
import Derived.Test.YtoolblbdmmiahaaDoorL3
import Derived.Test.YtoolblbdmmiahaaDoorEngU
import Derived.Test.YtoolblbdmmiahaaDoorLQ
namespace Go.Proofs.YtoolblbdmmiahaaDoor
open Go Go.Eng Go.RowKit Go.Proofs
set_option maxHeartbeats 4000000
set_option maxRecDepth 10000
attribute [local irreducible] TL TC TQ

theorem zero4' : (Tryd.prog.info? 4).map (fun i => i.zero) = some (some (Value.bool false)) := by kernel_rfl
theorem zero4 (w : World) : (zeroValue 4).run Tryd.prog w = .ok (.bool false) w := by
  obtain ⟨i, hi, hz⟩ := Option.map_eq_some_iff.1 zero4'
  simp [zeroValue, typeInfo, hi, hz]
/-- The second point is above the first by so much at most. -/
abbrev Bd := Int × Int × Int
def encBd (b : Bd) : List Value := [.int .i64 b.1, .int .i64 b.2.1, .int .i64 b.2.2]
/-- A survey at work: what is left out, and how much wider. -/
def encY (S : Sv) (p : Pl) (mo : Option Nat) (wd : Int) : List Value := [.int .i64 S.pts, .slice p.a1 S.shots.length p.c1, .slice p.a2 S.marks.length p.c2, .slice p.a3 S.thr.length p.c3, .map mo, .int .i64 wd]
/-- One after the other. -/
def acc (f : Nat → List Bd) : Nat → List Bd
  | 0 => []
  | k + 1 => acc f k ++ f k
def fP (n : Int) (i : Nat) : List Bd := [(n, (i : Int), 10000000), ((i : Int), n, 10000000)]
def fS (S : Sv) (o : Nat → Bool) (wd : Int) (k : Nat) : List Bd := match S.shots[k]? with
  | some x => if o k = true then [] else [(x.fr, x.to, x.rise.2 + wd), (x.to, x.fr, wd - x.rise.1)]
  | none => []
def fM (S : Sv) (o : Nat → Bool) (wd : Int) (k : Nat) : List Bd := match S.marks[k]? with
  | some x => if o (S.shots.length + k) = true then [] else [(S.pts, x.pt, x.ht.2 + wd), (x.pt, S.pts, wd - x.ht.1)]
  | none => []
def bds (S : Sv) (o : Nat → Bool) (wd : Int) : List Bd := acc (fP S.pts) S.pts.toNat ++ (acc (fS S o wd) S.shots.length ++ acc (fM S o wd) S.marks.length)
theorem acc_split (f : Nat → List Bd) {k : Nat} : ∀ {n : Nat}, k < n → ∃ C, acc f n = acc f k ++ (f k ++ C) := by
  intro n
  induction n with
  | zero => intro h; omega
  | succ n ih =>
    intro h
    by_cases hk : k = n
    · subst hk; exact ⟨[], by simp [acc]⟩
    · obtain ⟨C, hC⟩ := ih (by omega)
      exact ⟨C ++ f n, by simp [acc, hC]⟩
theorem permL {A B : Hp} (h : A.Perm B) : (A ++ []).Perm B := by rwa [List.append_nil]
theorem permR {A B : Hp} (h : A.Perm B) : A.Perm (B ++ []) := by rwa [List.append_nil]
theorem get2 {L A C : List Bd} {b1 b2 : Bd} (h : L = A ++ (b1 :: b2 :: C)) : L.getD A.length (0, 0, 0) = b1 ∧ L.getD (A.length + 1) (0, 0, 0) = b2 ∧ A.length + 1 < L.length := by
  subst h
  refine ⟨?_, ?_, by simp⟩
  · rw [List.getD_eq_getElem?_getD, List.getElem?_append_right (Nat.le_refl _), Nat.sub_self]; rfl
  · rw [List.getD_eq_getElem?_getD, List.getElem?_append_right (by omega), show A.length + 1 - A.length = 1 by omega]; rfl
theorem c67 (S : Sv) (p : Pl) (mo : Option Nat) (wd : Int) (w : World) : Calls Tryd.prog 31 #[.agg (encY S p mo wd).toArray] w
    (RetP w.heap.size w (fun b : Nat => .func (.func 37) #[] #[.pointer (some ⟨b, 0, none⟩)]) (fun b => [(b, .cells (encY S p mo wd) 66)]) (fun _ => True)) := by
  refine enter (args := [.agg (encY S p mo wd).toArray]) Tryd.func31 rfl Tryd.ntmps31 rfl (SH.refl _) ?_
  repeat' (first | refine rn ?_ | (apply TL_box; exact rfl; exact rfl; exact rfl; intro _ _) | (apply TL_alloc; exact rfl; intro _ _) | (apply TL_buildSlice; exact rfl; exact rfl; exact rfl; exact rfl; exact rfl; intro _ _))
  rename_i b1 _
  exact TQ_ret1 Tryd.results31 (RV.tmp rfl) (fun w' hs => ⟨b1, trivial, rfl, hs⟩)
theorem c72 {B : Nat} {w0 : World} (S : Sv) (p : Pl) (mo : Option Nat) (o : Nat → Bool) (wd : Int) (hm : Hp) (hS : OkSv S) (ho : OutH mo o hm) (hwd : 0 ≤ wd ∧ wd ≤ 40000000) (bt lp : Nat) (Z Y : Nat → Hp)
    (hsv : ∀ {w : World} {H : Hp}, SH B w0 w H → SvAt w S p) (hp : ∀ j, ((bt, .cells (encY S p mo wd) 66) :: (hm ++ Z j)).Perm (Y j))
    (hy : Yld Tryd.prog B w0 lp (bds S o wd).length (fun j => [.agg (encBd ((bds S o wd).getD j (0, 0, 0))).toArray]) Y) (w : World) (hs : SH B w0 w (Y 0)) :
    Calls Tryd.prog 37 #[.func (.yield lp) #[] #[], .pointer (some ⟨bt, 0, none⟩)] w (RetP B w0 (fun _ : Unit => .tuple #[]) (fun _ => Y (bds S o wd).length) (fun _ => True)) := by
  obtain ⟨s1, s2, s3, s4, s5, s6, s7⟩ := hS
  simp only [In] at s1
  refine enter (args := [.func (.yield lp) #[] #[], .pointer (some ⟨bt, 0, none⟩)]) Tryd.func37 rfl Tryd.ntmps37 rfl (hs.perm (hp 0)) ?_
  repeat' (first | refine rn ?_ | (apply TL_box; exact rfl; exact rfl; exact rfl; intro _ _) | (apply TL_alloc; exact rfl; intro _ _) | (apply TL_buildSlice; exact rfl; exact rfl; exact rfl; exact rfl; exact rfl; intro _ _))
  refine TC_loop (σ := Nat) (fun i => i ≤ S.pts.toNat) (fun i => [(0, .func (.yield lp) #[] #[]), (1, .pointer (some ⟨bt, 0, none⟩)), (3, .int .i64 S.pts), (12, .int .i64 S.pts), (13, .int .i64 i)]) (fun i => (bt, .cells (encY S p mo wd) 66) :: (hm ++ Z ((acc (fP S.pts) i).length))) (fun i => S.pts.toNat - i) 0 (Nat.zero_le _) sb (fun w h => h) (fun i hi => ?_)
  repeat' (first | refine rn ?_ | (apply TL_box; exact rfl; exact rfl; exact rfl; intro _ _) | (apply TL_alloc; exact rfl; intro _ _) | (apply TL_buildSlice; exact rfl; exact rfl; exact rfl; exact rfl; exact rfl; intro _ _))
  refine TC_cond_dec rfl (fun h1 => ?_) (fun h1 => ?_)
  · have hlt : i < S.pts.toNat := by omega
    obtain ⟨C, hC⟩ := acc_split (fP S.pts) hlt
    obtain ⟨e1, e2, e3⟩ := get2 (L := bds S o wd) (A := acc (fP S.pts) i) (b1 := (S.pts, (i : Int), 10000000)) (b2 := ((i : Int), S.pts, 10000000)) (C := C ++ (acc (fS S o wd) S.shots.length ++ acc (fM S o wd) S.marks.length)) (by unfold bds; rw [hC]; simp [fP])
    have e4 : (acc (fP S.pts) (i + 1)).length = (acc (fP S.pts) i).length + 1 + 1 := by simp [acc, fP]
    repeat' (first | refine rn ?_ | (apply TL_box; exact rfl; exact rfl; exact rfl; intro _ _) | (apply TL_alloc; exact rfl; intro _ _) | (apply TL_buildSlice; exact rfl; exact rfl; exact rfl; exact rfl; exact rfl; intro _ _))
    refine TL_yield rfl rfl rfl hy ((acc (fP S.pts) i).length) [] (by omega) (by dsimp only; rw [e1]; rfl) (permL (hp _).symm) ?_
    refine TL.weaken (Sub.refl _) (fun w h => h.perm (permR (hp ((acc (fP S.pts) i).length + 1)))) ?_
    repeat' (first | refine rn ?_ | (apply TL_box; exact rfl; exact rfl; exact rfl; intro _ _) | (apply TL_alloc; exact rfl; intro _ _) | (apply TL_buildSlice; exact rfl; exact rfl; exact rfl; exact rfl; exact rfl; intro _ _))
    refine TL_yield rfl rfl rfl hy ((acc (fP S.pts) i).length + 1) [] (by omega) (by dsimp only; rw [e2]; rfl) (permL (hp _).symm) ?_
    refine TL.weaken (Sub.refl _) (fun w h => h.perm (permR (hp ((acc (fP S.pts) i).length + 1 + 1)))) ?_
    repeat' (first | refine rn ?_ | (apply TL_box; exact rfl; exact rfl; exact rfl; intro _ _) | (apply TL_alloc; exact rfl; intro _ _) | (apply TL_buildSlice; exact rfl; exact rfl; exact rfl; exact rfl; exact rfl; intro _ _))
    refine TQ_round (i + 1) hlt (by omega) sb (fun w h => by rw [e4]; exact h)
  have hi2 : i = S.pts.toNat := by omega
  subst hi2
  clear h1 hi
  repeat' (first | refine rn ?_ | (apply TL_box; exact rfl; exact rfl; exact rfl; intro _ _) | (apply TL_alloc; exact rfl; intro _ _) | (apply TL_buildSlice; exact rfl; exact rfl; exact rfl; exact rfl; exact rfl; intro _ _))
  refine TC_loop (σ := Nat) (fun k => k ≤ S.shots.length) (fun k => [(0, .func (.yield lp) #[] #[]), (1, .pointer (some ⟨bt, 0, none⟩)), (3, .int .i64 S.pts), (33, .slice p.a1 S.shots.length p.c1), (34, .int .i64 S.shots.length), (35, .int .i64 k)]) (fun k => (bt, .cells (encY S p mo wd) 66) :: (hm ++ Z ((acc (fP S.pts) S.pts.toNat).length + (acc (fS S o wd) k).length))) (fun k => S.shots.length - k) 0 (Nat.zero_le _) sb (fun w h => h) (fun k hk => ?_)
  repeat' (first | refine rn ?_ | (apply TL_box; exact rfl; exact rfl; exact rfl; intro _ _) | (apply TL_alloc; exact rfl; intro _ _) | (apply TL_buildSlice; exact rfl; exact rfl; exact rfl; exact rfl; exact rfl; intro _ _))
  refine TC_cond_dec rfl (fun h1 => ?_) (fun h1 => ?_)
  · have hlt : k < S.shots.length := by omega
    obtain ⟨x, hx⟩ : ∃ x, S.shots[k]? = some x := ⟨_, List.getElem?_eq_getElem hlt⟩
    have hox := s5 x (List.mem_of_getElem? hx)
    have hr := hox.2
    simp only [Ord] at hr
    repeat' (first | refine rn ?_ | (apply TL_box; exact rfl; exact rfl; exact rfl; intro _ _) | (apply TL_alloc; exact rfl; intro _ _) | (apply TL_buildSlice; exact rfl; exact rfl; exact rfl; exact rfl; exact rfl; intro _ _))
    refine TL_index k rfl rfl rfl (fun w h => (hsv h).s1) rfl hlt (Nat.le_refl _) ?_
    refine TL_load_eln (u := x) rfl rfl (fun w h => (hsv h).s1) hx rfl ?_
    repeat' (first | refine rn ?_ | (apply TL_box; exact rfl; exact rfl; exact rfl; intro _ _) | (apply TL_alloc; exact rfl; intro _ _) | (apply TL_buildSlice; exact rfl; exact rfl; exact rfl; exact rfl; exact rfl; intro _ _))
    rename_i b6 _
    refine TL_lookupO (k) rfl rfl rfl (by omega) ho (fun p hp => by repeat (first | exact List.mem_append_left _ hp | apply List.mem_cons_of_mem)) zero4 ?_
    cases hok : o (k) with
    | true =>
      have e4 : (acc (fS S o wd) (k + 1)).length = (acc (fS S o wd) k).length := by simp [acc, fS, hx, hok]
      repeat' (first | refine rn ?_ | (apply TL_box; exact rfl; exact rfl; exact rfl; intro _ _) | (apply TL_alloc; exact rfl; intro _ _) | (apply TL_buildSlice; exact rfl; exact rfl; exact rfl; exact rfl; exact rfl; intro _ _))
      refine TQ_round (k + 1) hlt (by omega) sb (fun w h => by rw [e4]; exact h.sub (List.Sublist.cons _ (List.Sublist.refl _)))
    | false =>
      obtain ⟨C, hC⟩ := acc_split (fS S o wd) hlt
      have hf : fS S o wd k = [(x.fr, x.to, x.rise.2 + wd), (x.to, x.fr, wd - x.rise.1)] := by simp [fS, hx, hok]
      obtain ⟨e1, e2, e3⟩ := get2 (L := bds S o wd) (A := acc (fP S.pts) S.pts.toNat ++ acc (fS S o wd) k) (b1 := (x.fr, x.to, x.rise.2 + wd)) (b2 := (x.to, x.fr, wd - x.rise.1)) (C := C ++ acc (fM S o wd) S.marks.length) (by unfold bds; rw [hC, hf]; simp)
      have e0 : (acc (fP S.pts) S.pts.toNat ++ acc (fS S o wd) k).length = (acc (fP S.pts) S.pts.toNat).length + (acc (fS S o wd) k).length := by simp <;> omega
      rw [e0] at e1 e2 e3
      have e4 : (acc (fS S o wd) (k + 1)).length = (acc (fS S o wd) k).length + 1 + 1 := by simp [acc, hf]
      repeat' (first | refine rn ?_ | (apply TL_box; exact rfl; exact rfl; exact rfl; intro _ _) | (apply TL_alloc; exact rfl; intro _ _) | (apply TL_buildSlice; exact rfl; exact rfl; exact rfl; exact rfl; exact rfl; intro _ _))
      refine TL_yield rfl rfl rfl hy ((acc (fP S.pts) S.pts.toNat).length + (acc (fS S o wd) k).length) [(b6, .cells (encSh x) 49)] (by omega) (by dsimp only; rw [e1]; rfl) (List.perm_append_comm.trans ((hp _).symm.cons _)) ?_
      refine TL.weaken (Sub.refl _) (fun w h => h.perm (((hp ((acc (fP S.pts) S.pts.toNat).length + (acc (fS S o wd) k).length + 1)).cons _).trans (List.perm_append_comm (l₁ := [_])))) ?_
      repeat' (first | refine rn ?_ | (apply TL_box; exact rfl; exact rfl; exact rfl; intro _ _) | (apply TL_alloc; exact rfl; intro _ _) | (apply TL_buildSlice; exact rfl; exact rfl; exact rfl; exact rfl; exact rfl; intro _ _))
      refine TL_yield rfl rfl rfl hy ((acc (fP S.pts) S.pts.toNat).length + (acc (fS S o wd) k).length + 1) [(b6, .cells (encSh x) 49)] (by omega) (by dsimp only; rw [e2]; rfl) (List.perm_append_comm.trans ((hp _).symm.cons _)) ?_
      refine TL.weaken (Sub.refl _) (fun w h => h.perm (((hp ((acc (fP S.pts) S.pts.toNat).length + (acc (fS S o wd) k).length + 1 + 1)).cons _).trans (List.perm_append_comm (l₁ := [_])))) ?_
      repeat' (first | refine rn ?_ | (apply TL_box; exact rfl; exact rfl; exact rfl; intro _ _) | (apply TL_alloc; exact rfl; intro _ _) | (apply TL_buildSlice; exact rfl; exact rfl; exact rfl; exact rfl; exact rfl; intro _ _))
      refine TQ_round (k + 1) hlt (by omega) sb (fun w h => by rw [e4]; exact h.sub (List.Sublist.cons _ (List.Sublist.refl _)))
  have hk2 : k = S.shots.length := by omega
  subst hk2
  clear h1 hk
  repeat' (first | refine rn ?_ | (apply TL_box; exact rfl; exact rfl; exact rfl; intro _ _) | (apply TL_alloc; exact rfl; intro _ _) | (apply TL_buildSlice; exact rfl; exact rfl; exact rfl; exact rfl; exact rfl; intro _ _))
  refine TC_loop (σ := Nat) (fun k => k ≤ S.marks.length) (fun k => [(0, .func (.yield lp) #[] #[]), (1, .pointer (some ⟨bt, 0, none⟩)), (3, .int .i64 S.pts), (80, .slice p.a2 S.marks.length p.c2), (81, .int .i64 S.marks.length), (82, .int .i64 k)]) (fun k => (bt, .cells (encY S p mo wd) 66) :: (hm ++ Z ((acc (fP S.pts) S.pts.toNat).length + (acc (fS S o wd) S.shots.length).length + (acc (fM S o wd) k).length))) (fun k => S.marks.length - k) 0 (Nat.zero_le _) sb (fun w h => h) (fun k hk => ?_)
  repeat' (first | refine rn ?_ | (apply TL_box; exact rfl; exact rfl; exact rfl; intro _ _) | (apply TL_alloc; exact rfl; intro _ _) | (apply TL_buildSlice; exact rfl; exact rfl; exact rfl; exact rfl; exact rfl; intro _ _))
  refine TC_cond_dec rfl (fun h1 => ?_) (fun h1 => ?_)
  · have hlt : k < S.marks.length := by omega
    obtain ⟨x, hx⟩ : ∃ x, S.marks[k]? = some x := ⟨_, List.getElem?_eq_getElem hlt⟩
    have hox := s6 x (List.mem_of_getElem? hx)
    have hr := hox.2
    simp only [Ord] at hr
    repeat' (first | refine rn ?_ | (apply TL_box; exact rfl; exact rfl; exact rfl; intro _ _) | (apply TL_alloc; exact rfl; intro _ _) | (apply TL_buildSlice; exact rfl; exact rfl; exact rfl; exact rfl; exact rfl; intro _ _))
    refine TL_index k rfl rfl rfl (fun w h => (hsv h).s2) rfl hlt (Nat.le_refl _) ?_
    refine TL_load_eln (u := x) rfl rfl (fun w h => (hsv h).s2) hx rfl ?_
    repeat' (first | refine rn ?_ | (apply TL_box; exact rfl; exact rfl; exact rfl; intro _ _) | (apply TL_alloc; exact rfl; intro _ _) | (apply TL_buildSlice; exact rfl; exact rfl; exact rfl; exact rfl; exact rfl; intro _ _))
    rename_i b6 _
    refine TL_lookupO (S.shots.length + k) rfl rfl rfl (by omega) ho (fun p hp => by repeat (first | exact List.mem_append_left _ hp | apply List.mem_cons_of_mem)) zero4 ?_
    cases hok : o (S.shots.length + k) with
    | true =>
      have e4 : (acc (fM S o wd) (k + 1)).length = (acc (fM S o wd) k).length := by simp [acc, fM, hx, hok]
      repeat' (first | refine rn ?_ | (apply TL_box; exact rfl; exact rfl; exact rfl; intro _ _) | (apply TL_alloc; exact rfl; intro _ _) | (apply TL_buildSlice; exact rfl; exact rfl; exact rfl; exact rfl; exact rfl; intro _ _))
      refine TQ_round (k + 1) hlt (by omega) sb (fun w h => by rw [e4]; exact h.sub (List.Sublist.cons _ (List.Sublist.refl _)))
    | false =>
      obtain ⟨C, hC⟩ := acc_split (fM S o wd) hlt
      have hf : fM S o wd k = [(S.pts, x.pt, x.ht.2 + wd), (x.pt, S.pts, wd - x.ht.1)] := by simp [fM, hx, hok]
      obtain ⟨e1, e2, e3⟩ := get2 (L := bds S o wd) (A := (acc (fP S.pts) S.pts.toNat ++ acc (fS S o wd) S.shots.length) ++ acc (fM S o wd) k) (b1 := (S.pts, x.pt, x.ht.2 + wd)) (b2 := (x.pt, S.pts, wd - x.ht.1)) (C := C) (by unfold bds; rw [hC, hf]; simp)
      have e0 : ((acc (fP S.pts) S.pts.toNat ++ acc (fS S o wd) S.shots.length) ++ acc (fM S o wd) k).length = (acc (fP S.pts) S.pts.toNat).length + (acc (fS S o wd) S.shots.length).length + (acc (fM S o wd) k).length := by simp <;> omega
      rw [e0] at e1 e2 e3
      have e4 : (acc (fM S o wd) (k + 1)).length = (acc (fM S o wd) k).length + 1 + 1 := by simp [acc, hf]
      repeat' (first | refine rn ?_ | (apply TL_box; exact rfl; exact rfl; exact rfl; intro _ _) | (apply TL_alloc; exact rfl; intro _ _) | (apply TL_buildSlice; exact rfl; exact rfl; exact rfl; exact rfl; exact rfl; intro _ _))
      refine TL_yield rfl rfl rfl hy ((acc (fP S.pts) S.pts.toNat).length + (acc (fS S o wd) S.shots.length).length + (acc (fM S o wd) k).length) [(b6, .cells (encMk x) 59)] (by omega) (by dsimp only; rw [e1]; rfl) (List.perm_append_comm.trans ((hp _).symm.cons _)) ?_
      refine TL.weaken (Sub.refl _) (fun w h => h.perm (((hp ((acc (fP S.pts) S.pts.toNat).length + (acc (fS S o wd) S.shots.length).length + (acc (fM S o wd) k).length + 1)).cons _).trans (List.perm_append_comm (l₁ := [_])))) ?_
      repeat' (first | refine rn ?_ | (apply TL_box; exact rfl; exact rfl; exact rfl; intro _ _) | (apply TL_alloc; exact rfl; intro _ _) | (apply TL_buildSlice; exact rfl; exact rfl; exact rfl; exact rfl; exact rfl; intro _ _))
      refine TL_yield rfl rfl rfl hy ((acc (fP S.pts) S.pts.toNat).length + (acc (fS S o wd) S.shots.length).length + (acc (fM S o wd) k).length + 1) [(b6, .cells (encMk x) 59)] (by omega) (by dsimp only; rw [e2]; rfl) (List.perm_append_comm.trans ((hp _).symm.cons _)) ?_
      refine TL.weaken (Sub.refl _) (fun w h => h.perm (((hp ((acc (fP S.pts) S.pts.toNat).length + (acc (fS S o wd) S.shots.length).length + (acc (fM S o wd) k).length + 1 + 1)).cons _).trans (List.perm_append_comm (l₁ := [_])))) ?_
      repeat' (first | refine rn ?_ | (apply TL_box; exact rfl; exact rfl; exact rfl; intro _ _) | (apply TL_alloc; exact rfl; intro _ _) | (apply TL_buildSlice; exact rfl; exact rfl; exact rfl; exact rfl; exact rfl; intro _ _))
      refine TQ_round (k + 1) hlt (by omega) sb (fun w h => by rw [e4]; exact h.sub (List.Sublist.cons _ (List.Sublist.refl _)))
  have hk2 : k = S.marks.length := by omega
  subst hk2
  clear h1 hk
  repeat' (first | refine rn ?_ | (apply TL_box; exact rfl; exact rfl; exact rfl; intro _ _) | (apply TL_alloc; exact rfl; intro _ _) | (apply TL_buildSlice; exact rfl; exact rfl; exact rfl; exact rfl; exact rfl; intro _ _))
  have e : (acc (fP S.pts) S.pts.toNat).length + (acc (fS S o wd) S.shots.length).length + (acc (fM S o wd) S.marks.length).length = (bds S o wd).length := by simp [bds]; omega
  rw [e]
  exact TQ_end0 Tryd.results37 (fun w' hs => ⟨(), trivial, rfl, hs.perm (hp _).symm⟩)
end Go.Proofs.YtoolblbdmmiahaaDoor
