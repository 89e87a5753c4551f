/- Plain laws of pieces: chains, cuts, what a turn takes. -/
import Derived.Test.YtkpkebpofpcmaaaGreatDoorD7
namespace Go.Proofs.YtkpkebpofpcmaaaGreatDoor
open Go Go.Eng

/-- Pieces follow one another from a minute to the end. -/
def chP (e : Int) : Int → List Pc → Prop
  | s, [] => s = e
  | s, p :: l => p.turn.1 = s ∧ p.turn.1 < p.turn.2 ∧ chP e p.turn.2 l
theorem chP_le {e : Int} : ∀ {l : List Pc} {s : Int}, chP e s l → s + (l.length : Int) ≤ e
  | [], s, h => by simp [chP] at h; simp; omega
  | p :: l, s, h => by
    have := chP_le h.2.2
    have h1 := h.1; have h2 := h.2.1
    simp only [List.length_cons]; omega
theorem chP_len {e s : Int} {l : List Pc} (h : chP e s l) : (l.length : Int) ≤ e - s := by have := chP_le h; omega
theorem chP_append {m : Int} : ∀ {A B : List Pc} {s e : Int}, chP m s A → chP e m B → chP e s (A ++ B)
  | [], B, s, e, h, h2 => by simp [chP] at h; subst h; exact h2
  | p :: A, B, s, e, h, h2 => ⟨h.1, h.2.1, chP_append h.2.2 h2⟩
theorem chP_mem {e : Int} : ∀ {l : List Pc} {s : Int}, chP e s l → ∀ p ∈ l, s ≤ p.turn.1 ∧ p.turn.1 < p.turn.2 ∧ p.turn.2 ≤ e
  | p :: l, s, h, q, hq => by
    have h1 := h.1; have h2 := h.2.1
    have hle := chP_le h.2.2
    rcases List.mem_cons.1 hq with rfl | hq
    · omega
    · have := chP_mem h.2.2 q hq
      omega
theorem cutP_split {m : Int} : ∀ {l : List Pc} {s e : Int}, chP e s l → s ≤ m → m ≤ e → ∃ A B, cutP m l = A ++ B ∧ chP m s A ∧ chP e m B
  | [], s, e, h, h1, h2 => by
    simp [chP] at h
    exact ⟨[], [], rfl, by simp [chP]; omega, by simp [chP]; omega⟩
  | p :: l, s, e, h, h1, h2 => by
    obtain ⟨g1, g2, g3⟩ := h
    by_cases hin : insideB m p = true
    · rw [cutP, if_pos hin]
      simp only [insideB, decide_eq_true_eq] at hin
      exact ⟨[{ p with turn := (p.turn.1, m) }], { p with turn := (m, p.turn.2) } :: l, rfl, ⟨g1, hin.1, rfl⟩, ⟨rfl, hin.2, g3⟩⟩
    · rw [cutP, if_neg hin]
      simp only [insideB, decide_eq_true_eq, not_and] at hin
      by_cases hm : p.turn.2 ≤ m
      · obtain ⟨A, B, e1, e2, e3⟩ := cutP_split g3 hm h2
        exact ⟨p :: A, B, by rw [e1]; rfl, ⟨g1, g2, e2⟩, e3⟩
      · have : m = s := by
          by_cases hlt : p.turn.1 < m
          · exact absurd (hin hlt) (by omega)
          · omega
        subst this
        refine ⟨[], p :: cutP m l, rfl, rfl, g1, g2, ?_⟩
        rw [cutP_none]; exact g3
        intro q hq
        have := chP_mem g3 q hq
        simp only [insideB, decide_eq_false_iff_not]; omega
theorem cutP_append {m : Int} : ∀ {A B : List Pc}, (∀ p ∈ A, insideB m p = false) → cutP m (A ++ B) = A ++ cutP m B
  | [], B, _ => rfl
  | p :: A, B, h => by
    rw [List.cons_append, cutP, if_neg (by rw [h p List.mem_cons_self]; simp), cutP_append (fun q hq => h q (List.mem_cons_of_mem _ hq))]; rfl
def cut2 (t : Sp) (l : List Pc) : List Pc := cutP t.2 (cutP t.1 l)
structure Split3 (e : Int) (t : Sp) (l A M C : List Pc) : Prop where
  eq : cut2 t l = A ++ (M ++ C)
  a : chP t.1 0 A
  m : chP t.2 t.1 M
  c : chP e t.2 C
theorem split3 {e : Int} {t : Sp} {l : List Pc} (h : chP e 0 l) (ht : Tn t 0 e) : ∃ A M C, Split3 e t l A M C := by
  obtain ⟨h1, h2, h3⟩ := ht
  obtain ⟨A, B, e1, e2, e3⟩ := cutP_split h h1 (by omega)
  obtain ⟨M, C, e4, e5, e6⟩ := cutP_split e3 (Int.le_of_lt h2) h3
  refine ⟨A, M, C, ?_, e2, e5, e6⟩
  unfold cut2
  rw [e1, cutP_append, e4]
  intro p hp
  have := chP_mem e2 p hp
  simp only [insideB, decide_eq_false_iff_not]; omega
theorem Split3.ch {e : Int} {t : Sp} {l A M C : List Pc} (h : Split3 e t l A M C) : chP e 0 (cut2 t l) := by
  rw [h.eq]; exact chP_append h.a (chP_append h.m h.c)
theorem Split3.ne {e : Int} {t : Sp} {l A M C : List Pc} (h : Split3 e t l A M C) (ht : t.1 < t.2) : M ≠ [] := fun e1 => by
  have := h.m; rw [e1] at this; simp [chP] at this; omega
theorem Split3.first {e : Int} {t : Sp} {l A M C : List Pc} (h : Split3 e t l A M C) (ht : t.1 < t.2) : fidx (fun p : Pc => decide (p.turn.1 = t.1)) (cut2 t l) = (A.length : Int) := by
  obtain ⟨p, M', hM⟩ := List.exists_cons_of_ne_nil (h.ne ht)
  have hm := h.m
  rw [hM] at hm
  refine fidx_at (x := p) ?_ (by simpa using hm.1) (fun j y hj hy => ?_)
  · rw [h.eq, hM]; simp
  · rw [h.eq, List.getElem?_append_left hj] at hy
    have := chP_mem h.a y (List.mem_of_getElem? hy)
    simp; omega
theorem chP_last {e : Int} : ∀ {l : List Pc} {s : Int}, chP e s l → l ≠ [] → ∃ p, l[l.length - 1]? = some p ∧ p.turn.2 = e ∧ ∀ (j : Nat) q, j < l.length - 1 → l[j]? = some q → q.turn.2 < e
  | [], s, h, hn => absurd rfl hn
  | [p], s, h, _ => ⟨p, rfl, h.2.2, fun j q hj => by simp at hj⟩
  | p :: q :: l, s, h, _ => by
    obtain ⟨x, h1, h2, h3⟩ := chP_last (l := q :: l) h.2.2 (by simp)
    refine ⟨x, by simpa using h1, h2, fun j y hj hy => ?_⟩
    cases j with
    | zero =>
      simp at hy; subst hy
      have := chP_le h.2.2
      simp at this; omega
    | succ j => exact h3 j y (by simp at hj ⊢; omega) (by simpa using hy)
theorem Split3.last {e : Int} {t : Sp} {l A M C : List Pc} (h : Split3 e t l A M C) (ht : t.1 < t.2) : fidx (fun p : Pc => decide (p.turn.2 = t.2)) (cut2 t l) = ((A.length + M.length - 1 : Nat) : Int) := by
  have hn := h.ne ht
  have hl : 0 < M.length := List.length_pos_iff.2 hn
  obtain ⟨x, h1, h2, h3⟩ := chP_last h.m hn
  refine fidx_at (x := x) ?_ (by simpa using h2) (fun j y hj hy => ?_)
  · rw [h.eq, List.getElem?_append_right (by omega), List.getElem?_append_left (by omega), show A.length + M.length - 1 - A.length = M.length - 1 by omega]; exact h1
  · rw [h.eq] at hy
    simp only [decide_eq_false_iff_not]
    rcases Nat.lt_or_ge j A.length with hja | hja
    · rw [List.getElem?_append_left hja] at hy
      have := chP_mem h.a y (List.mem_of_getElem? hy)
      omega
    · rw [List.getElem?_append_right hja, List.getElem?_append_left (by omega)] at hy
      have := h3 _ y (by omega) hy
      omega
def inT (t : Sp) (p : Pc) : Bool := decide (t.1 ≤ p.turn.1 ∧ p.turn.2 ≤ t.2)
def setT (t : Sp) (f : Pc → Pc) (l : List Pc) : List Pc := l.map fun p => if inT t p then f p else p
theorem Split3.inA {e : Int} {t : Sp} {l A M C : List Pc} (h : Split3 e t l A M C) : (∀ p ∈ A, inT t p = false) ∧ (∀ p ∈ M, inT t p = true) ∧ (∀ p ∈ C, inT t p = false) := by
  refine ⟨fun p hp => ?_, fun p hp => ?_, fun p hp => ?_⟩
  · have := chP_mem h.a p hp
    simp only [inT, decide_eq_false_iff_not]; omega
  · have := chP_mem h.m p hp
    simp only [inT, decide_eq_true_eq]; omega
  · have := chP_mem h.c p hp
    simp only [inT, decide_eq_false_iff_not]; omega
theorem map_id' {α : Type} {f : α → α} : ∀ {l : List α}, (∀ x ∈ l, f x = x) → l.map f = l
  | [], _ => rfl
  | x :: l, h => by rw [List.map_cons, h x List.mem_cons_self, map_id' (fun y hy => h y (List.mem_cons_of_mem _ hy))]
theorem Split3.set {e : Int} {t : Sp} {l A M C : List Pc} (h : Split3 e t l A M C) (f : Pc → Pc) : setT t f (cut2 t l) = A ++ (M.map f ++ C) := by
  obtain ⟨h1, h2, h3⟩ := h.inA
  rw [h.eq, setT, List.map_append, List.map_append, map_id' (l := A) (fun p hp => by rw [h1 p hp]; rfl), map_id' (l := C) (fun p hp => by rw [h3 p hp]; rfl)]
  rw [List.map_congr_left (l := M) (g := f) (fun p hp => by rw [h2 p hp]; rfl)]
theorem Split3.any {e : Int} {t : Sp} {l A M C : List Pc} (h : Split3 e t l A M C) (q : Pc → Bool) : ((cut2 t l).any fun p => inT t p && q p) = M.any q := by
  obtain ⟨h1, h2, h3⟩ := h.inA
  have e0 : ∀ {l : List Pc}, (∀ p ∈ l, inT t p = false) → (l.any fun p => inT t p && q p) = false := fun hl => by
    rw [List.any_eq_false]; intro p hp; rw [hl p hp]; simp
  rw [h.eq, List.any_append, List.any_append, e0 h1, e0 h3, Bool.false_or, Bool.or_false]
  have e1 : ∀ {l : List Pc}, (∀ p ∈ l, inT t p = true) → (l.any fun p => inT t p && q p) = l.any q := by
    intro l
    induction l with
    | nil => intro _; rfl
    | cons x l ih => intro hl; rw [List.any_cons, List.any_cons, ih (fun p hp => hl p (List.mem_cons_of_mem _ hp)), hl x List.mem_cons_self]; simp
  exact e1 h2
theorem chP_map {e : Int} {f : Pc → Pc} (hf : ∀ p, (f p).turn = p.turn) : ∀ {l : List Pc} {s : Int}, chP e s l → chP e s (l.map f)
  | [], s, h => h
  | p :: l, s, h => ⟨by rw [hf]; exact h.1, by rw [hf]; exact h.2.1, by rw [hf]; exact chP_map hf h.2.2⟩
theorem chP_setT {e : Int} {t : Sp} {f : Pc → Pc} (hf : ∀ p, (f p).turn = p.turn) {l : List Pc} (h : chP e 0 l) : chP e 0 (setT t f l) :=
  chP_map (fun p => by split <;> simp [hf]) h
/-- Elements of the middle turned one by one. -/
def stepM (f : Pc → Pc) (A M C : List Pc) (k : Nat) : List Pc := A ++ ((M.take k).map f ++ (M.drop k ++ C))
theorem stepM_zero (f : Pc → Pc) (A M C : List Pc) : stepM f A M C 0 = A ++ (M ++ C) := by simp [stepM]
theorem stepM_all (f : Pc → Pc) (A M C : List Pc) : stepM f A M C M.length = A ++ (M.map f ++ C) := by simp [stepM]
theorem stepM_len (f : Pc → Pc) (A M C : List Pc) (k : Nat) : (stepM f A M C k).length = A.length + (M.length + C.length) := by simp [stepM]; omega
theorem stepM_get (f : Pc → Pc) (A M C : List Pc) (k : Nat) {p : Pc} (hp : M[k]? = some p) : (stepM f A M C k)[A.length + k]? = some p := by
  have hlt := (List.getElem?_eq_some_iff.1 hp).1
  unfold stepM
  rw [List.getElem?_append_right (by omega), List.getElem?_append_right (by simp; omega)]
  simp only [List.length_map, List.length_take]
  rw [show A.length + k - A.length - min k M.length = 0 by omega, List.getElem?_append_left (by simp; omega), List.getElem?_drop]
  simpa using hp
theorem stepM_succ (f : Pc → Pc) (A M C : List Pc) (k : Nat) {p : Pc} (hp : M[k]? = some p) : (stepM f A M C k).set (A.length + k) (f p) = stepM f A M C (k + 1) := by
  obtain ⟨hlt, he⟩ := List.getElem?_eq_some_iff.1 hp
  unfold stepM
  rw [List.set_append_right _ _ (by omega), List.set_append_right _ _ (by simp; omega)]
  congr 1
  simp only [List.length_map, List.length_take]
  rw [show A.length + k - A.length - min k M.length = 0 by omega, List.drop_eq_getElem_cons hlt, List.cons_append, List.set_cons_zero, List.take_add_one, hp]
  simp
theorem stepM_set (f : Pc → Pc) (A M C : List Pc) (k : Nat) (u : Pc) (hlt : k < M.length) : (stepM f A M C k).set (A.length + k) u = A ++ (((M.take k).map f ++ u :: M.drop (k + 1)) ++ C) := by
  unfold stepM
  rw [List.set_append_right _ _ (by omega), List.set_append_right _ _ (by simp; omega)]
  simp only [List.length_map, List.length_take]
  rw [show A.length + k - A.length - min k M.length = 0 by omega, List.drop_eq_getElem_cons hlt, List.cons_append, List.set_cons_zero]
  simp
end Go.Proofs.YtkpkebpofpcmaaaGreatDoor
/- Walks of the package deed: of, his, give, sale, gift. -/
namespace Go.Proofs.YtkpkebpofpcmaaaGreatDoor
open Go Go.Eng Go.RowKit Go.Proofs
set_option maxHeartbeats 4000000
set_option maxRecDepth 10000
attribute [local irreducible] TL TC TQ

theorem elA_sh (pb n k off : Nat) : elA (some ⟨pb, n * 5, none⟩) 5 k off = elA (some ⟨pb, 0, none⟩) 5 (n + k) off := by
  simp only [elA, Addr.mk.injEq, and_true, true_and]
  omega
/-- The slice of the middle pieces. -/
def midV (y : Lc) (A M : List Pc) : Value := .slice (y.ao.map (fun a => a.add (A.length * 5))) M.length (y.cap - A.length)
theorem c216 {B : Nat} {w0 : World} {G : Hp} (r : Ro) (b bm : Nat) (x : Lc) (pcs : List Pc) (dead : Int → Bool) (t : Sp) (e : Int) (A M C : List Pc) (hok : BkOk x pcs dead) (hch : chP e 0 pcs) (he : e ≤ 80000) (ht : Tn t 0 e) (h3 : Split3 e t pcs A M C) (w : World) (hs : SH B w0 w (bkH r b bm x pcs.length G)) :
    Calls Tryz.prog 216 #[.pointer (some ⟨b, 0, none⟩), .agg (encSp t).toArray] w (RetP B w0 (fun y : Lc => midV y A M) (fun y => bkH r b bm y (cut2 t pcs).length G) (fun y => BkOk y (cut2 t pcs) dead)) := by
  have hl1 := chP_len hch
  have hl2 := chP_len h3.ch
  have hl0 : pcs.length ≤ 80000 := by omega
  have hlc : (cut2 t pcs).length ≤ 80000 := by omega
  have hl3 : (cutP t.1 pcs).length ≤ 80000 := by
    obtain ⟨g1, g2, g3⟩ := ht
    obtain ⟨A', B', e1, e2, e3⟩ := cutP_split hch g1 (by omega)
    rw [e1]
    have := chP_len (chP_append e2 e3)
    omega
  have hsm' : Small (cut2 t pcs).length := by unfold Small; omega
  have hMl : A.length + M.length ≤ (cut2 t pcs).length := by rw [h3.eq, List.length_append, List.length_append]; omega
  have hM0 : 0 < M.length := List.length_pos_iff.2 (h3.ne ht.2.1)
  refine enter (args := [.pointer (some ⟨b, 0, none⟩), .agg (encSp t).toArray]) Tryz.func216 rfl Tryz.ntmps216 rfl hs ?_
  repeat' (first | refine rn ?_ | (refine zb ?_; intro _ _) | (refine za ?_; intro _ _) | (refine zs ?_; intro _ _) | (refine nk ?_))
  rename_i b3 _
  refine TL_call rfl rfl rfl (fun _ : Lc => .tuple #[]) (fun y => bkH r b bm y (cutP t.1 pcs).length ((b3, .cells (encSp t) 38) :: G)) (fun y => BkOk y (cutP t.1 pcs) dead) (fun w h => c193 r b bm x pcs dead t.1 hok (by omega) w (h.perm ?_)) (fun y1 hy1 => ?_)
  · exact pm_in1
  repeat' (first | refine rn ?_ | (refine zb ?_; intro _ _) | (refine za ?_; intro _ _) | (refine zs ?_; intro _ _) | (refine nk ?_))
  refine TL_call rfl rfl rfl (fun _ : Lc => .tuple #[]) (fun y => bkH r b bm y (cut2 t pcs).length ((b3, .cells (encSp t) 38) :: G)) (fun y => BkOk y (cut2 t pcs) dead) (fun w h => c193 r b bm y1 (cutP t.1 pcs) dead t.2 hy1 (by omega) w h) (fun y hy => ?_)
  repeat' (first | refine rn ?_ | (refine zb ?_; intro _ _) | (refine za ?_; intro _ _) | (refine zs ?_; intro _ _) | (refine nk ?_))
  refine TL_callV rfl rfl rfl (fun w h => c41 (fun p : Pc => decide (p.turn.1 = t.1)) 226 [.pointer (some ⟨b3, 0, none⟩)] (cut2 t pcs) y.ao y.cap hsm' w (hy.row.sl h (fun p hp => mem_bk hp)) (fun p _ w' hb => c226 p t b3 w' ((Sl.of_blk (enc := encSp) (k := 2) (l := [t]) h (mem_bk' (List.Mem.head _)) (fun _ _ => rfl) ⟨[], rfl⟩).mono hb))) ?_
  repeat' (first | refine rn ?_ | (refine zb ?_; intro _ _) | (refine za ?_; intro _ _) | (refine zs ?_; intro _ _) | (refine nk ?_))
  refine TL_callV rfl rfl rfl (fun w h => c41 (fun p : Pc => decide (p.turn.2 = t.2)) 227 [.pointer (some ⟨b3, 0, none⟩)] (cut2 t pcs) y.ao y.cap hsm' w (hy.row.sl h (fun p hp => mem_bk hp)) (fun p _ w' hb => c227 p t b3 w' ((Sl.of_blk (enc := encSp) (k := 2) (l := [t]) h (mem_bk' (List.Mem.head _)) (fun _ _ => rfl) ⟨[], rfl⟩).mono hb))) ?_
  rw [h3.first ht.2.1, h3.last ht.2.1]
  repeat' (first | refine rn ?_ | (refine zb ?_; intro _ _) | (refine za ?_; intro _ _) | (refine zs ?_; intro _ _) | (refine nk ?_))
  have hrl := hy.row.le
  refine TL_slice2 A.length (A.length + M.length) rfl rfl rfl rfl rfl (by omega) (by omega) (by omega) ?_
  rw [if_neg (by omega), Nat.add_sub_cancel_left]
  repeat' (first | refine rn ?_ | (refine zb ?_; intro _ _) | (refine za ?_; intro _ _) | (refine zs ?_; intro _ _))
  exact TQ_ret1 Tryz.results216 (RV.tmp rfl) (fun w' hs => ⟨y, hy, rfl, hs.sub (List.Sublist.cons_cons _ (List.Sublist.cons_cons _ (List.Sublist.append_left (List.sublist_cons_self _ _) _)))⟩)
theorem row_some {α : Type} {T : TypeId} {k : Nat} {enc : α → List Value} {ao : Option Addr} {cap : Nat} {ob : Hp} {l : List α} (h : Row T k enc ao cap ob l) (hl : l ≠ []) : ∃ b, ao = some ⟨b, 0, none⟩ := by
  rcases h.2 with ⟨_, _, _, e⟩ | ⟨b, _, e, _⟩
  · exact absurd e hl
  · exact ⟨b, e⟩
theorem mid_sl {B : Nat} {w0 w : World} {H : Hp} {ao : Option Addr} {cap : Nat} {ob : Hp} {A M C : List Pc} (hrow : Row 116 5 encPc ao cap ob (A ++ (M ++ C))) (hM : M ≠ []) (hs : SH B w0 w H) (hm : ∀ p ∈ ob, p ∈ H) :
    Sl w 5 encPc (ao.map (fun a => a.add (A.length * 5))) M := by
  have h1 := ((hrow.sl hs hm).drop A.length cap hrow.le).take M.length
  have hl := hrow.le
  have hM0 : 0 < M.length := List.length_pos_iff.2 hM
  rw [if_neg (by simp only [List.length_append] at hl; omega)] at h1
  rw [List.drop_left, List.take_left] at h1
  exact h1
def hisB (x : Dd) (l : List Pc) : Bool := !(l.any fun p => inT x.turn p && decide (p.owner ≠ x.fr))
def hisE (so : Bool) (y : Lc) (A M : List Pc) : Except Value Value := if so then .ok (midV y A M) else .error (voidV 2)
theorem c194 {B : Nat} {w0 : World} {G : Hp} (r : Ro) (b bm : Nat) (x : Lc) (pcs : List Pc) (dead : Int → Bool) (d : Dd) (e : Int) (A M C : List Pc) (hok : BkOk x pcs dead) (hch : chP e 0 pcs) (he : e ≤ 80000) (ht : Tn d.turn 0 e) (h3 : Split3 e d.turn pcs A M C) (w : World) (hs : SH B w0 w (bkH r b bm x pcs.length G)) :
    Calls Tryz.prog 194 #[.pointer (some ⟨b, 0, none⟩), .agg (encDd d).toArray] w (EndP B w0 (fun y : Lc => hisE (hisB d (cut2 d.turn pcs)) y A M) (fun y => bkH r b bm y (cut2 d.turn pcs).length G) (fun y => BkOk y (cut2 d.turn pcs) dead)) := by
  have hl2 := chP_len h3.ch
  have hMl : A.length + M.length ≤ (cut2 d.turn pcs).length := by rw [h3.eq, List.length_append, List.length_append]; omega
  have hMs : Small M.length := by unfold Small; omega
  have hM := h3.ne ht.2.1
  refine enter (args := [.pointer (some ⟨b, 0, none⟩), .agg (encDd d).toArray]) Tryz.func194 rfl Tryz.ntmps194 rfl hs ?_
  repeat' (first | refine rn ?_ | (refine zb ?_; intro _ _) | (refine za ?_; intro _ _) | (refine zs ?_; intro _ _) | (refine nk ?_))
  rename_i b3 _
  refine TL_call rfl rfl rfl (fun y : Lc => midV y A M) (fun y => bkH r b bm y (cut2 d.turn pcs).length ((b3, .cells (encDd d) 50) :: G)) (fun y => BkOk y (cut2 d.turn pcs) dead) (fun w h => c216 r b bm x pcs dead d.turn e A M C hok hch he ht h3 w (h.perm pm_in1)) (fun y hy => ?_)
  repeat' (first | refine rn ?_ | (refine zb ?_; intro _ _) | (refine za ?_; intro _ _) | (refine zs ?_; intro _ _) | (refine nk ?_))
  refine TL_callV rfl rfl rfl (fun w h => c195 (fun p : Pc => decide (p.owner ≠ d.fr)) 217 [.pointer (some ⟨b3, 0, none⟩)] M _ _ hMs w (mid_sl (h3.eq ▸ hy.row) hM h (fun p hp => mem_bk0 hp)) (fun p _ w' hb => c217 p d b3 w' ((Sl.of_blk (enc := encDd) (k := 9) (l := [d]) h (mem_bk' (List.Mem.head _)) (fun _ _ => rfl) ⟨[], rfl⟩).mono hb))) ?_
  have ea : (!M.any fun p : Pc => decide (p.owner ≠ d.fr)) = hisB d (cut2 d.turn pcs) := by unfold hisB; rw [h3.any]
  repeat' (first | refine rn ?_ | (refine zb ?_; intro _ _) | (refine za ?_; intro _ _) | (refine zs ?_; intro _ _) | (refine nk ?_))
  rw [ea]
  refine TL_callE rfl rfl rfl (fun w h => c129 (hisB d (cut2 d.turn pcs)) 2 w) (fun v hv => ?_) (fun v hv => ?_)
  · have hb : hisB d (cut2 d.turn pcs) = true := by
      cases h : hisB d (cut2 d.turn pcs) with
      | true => rfl
      | false => rw [h] at hv; cases hv
    repeat' (first | refine rn ?_ | (refine zb ?_; intro _ _) | (refine za ?_; intro _ _) | (refine zs ?_; intro _ _))
    refine TQ_ret1 Tryz.results194 (RV.tmp rfl) (fun w' hs => ⟨y, hy, by rw [hb]; rfl, hs.sub (List.Sublist.cons_cons _ (List.Sublist.cons_cons _ (List.Sublist.append_left (List.sublist_cons_self _ _) _)))⟩)
  · have hb : hisB d (cut2 d.turn pcs) = false := by
      cases h : hisB d (cut2 d.turn pcs) with
      | false => rfl
      | true => rw [h] at hv; cases hv
    rw [hb] at hv
    cases hv
    repeat (first | apply TQ_then_panic | apply TQ_block_panic)
    exact TQ_panic (fun w' hs => ⟨y, hy, by rw [hb]; rfl, hs.sub (List.Sublist.cons_cons _ (List.Sublist.cons_cons _ (List.Sublist.append_left (List.sublist_cons_self _ _) _)))⟩)
def setOwn (to : Int) (p : Pc) : Pc := { p with owner := to }
/-- What a deed comes to: why it is void, and the pieces. -/
def giveM (d : Dd) (to : Int) (pcs : List Pc) : Int × List Pc := if hisB d (cut2 d.turn pcs) then (0, setT d.turn (setOwn to) (cut2 d.turn pcs)) else (2, cut2 d.turn pcs)
def whyE (n : Int) : Except Value Value := if n = 0 then .ok (.tuple #[]) else .error (voidV n)
theorem whyE_ok {n : Int} {v : Value} (h : whyE n = .ok v) : whyE n = .ok (.tuple #[]) := by
  unfold whyE at h ⊢; split <;> simp_all
theorem c187 {B : Nat} {w0 : World} {G : Hp} (r : Ro) (b bm : Nat) (x : Lc) (pcs : List Pc) (dead : Int → Bool) (d : Dd) (to : Int) (e : Int) (hok : BkOk x pcs dead) (hch : chP e 0 pcs) (he : e ≤ 80000) (ht : Tn d.turn 0 e) (w : World) (hs : SH B w0 w (bkH r b bm x pcs.length G)) :
    Calls Tryz.prog 187 #[.pointer (some ⟨b, 0, none⟩), .agg (encDd d).toArray, .int .i64 to] w (EndP B w0 (fun _ : Lc => whyE (giveM d to pcs).1) (fun y => bkH r b bm y (giveM d to pcs).2.length G) (fun y => BkOk y (giveM d to pcs).2 dead)) := by
  obtain ⟨A, M, C, h3⟩ := split3 hch ht
  have hl2 := chP_len h3.ch
  have hMl : A.length + (M.length + C.length) = (cut2 d.turn pcs).length := by rw [h3.eq, List.length_append, List.length_append]
  have hM := h3.ne ht.2.1
  refine enter (args := [.pointer (some ⟨b, 0, none⟩), .agg (encDd d).toArray, .int .i64 to]) Tryz.func187 rfl Tryz.ntmps187 rfl hs ?_
  repeat' (first | refine rn ?_ | (refine zb ?_; intro _ _) | (refine za ?_; intro _ _) | (refine zs ?_; intro _ _) | (refine nk ?_))
  rename_i b4 _
  refine TL_callP rfl rfl rfl (fun y : Lc => hisE (hisB d (cut2 d.turn pcs)) y A M) (fun y => bkH r b bm y (cut2 d.turn pcs).length ((b4, .cells (encDd d) 50) :: G)) (fun y => BkOk y (cut2 d.turn pcs) dead) (fun w h => c194 r b bm x pcs dead d e A M C hok hch he ht h3 w (h.perm pm_in1)) (fun y v hy hv => ?_) (fun y v hy hv => ?_)
  rotate_left
  · have hb : hisB d (cut2 d.turn pcs) = false := by
      cases h : hisB d (cut2 d.turn pcs) with
      | false => rfl
      | true => rw [h] at hv; cases hv
    rw [hb] at hv
    cases hv
    have eg : giveM d to pcs = (2, cut2 d.turn pcs) := by unfold giveM; rw [hb]; rfl
    rw [eg]
    repeat (first | apply TQ_then_panic | apply TQ_block_panic)
    exact TQ_panic (fun w' hs => ⟨y, hy, rfl, hs.sub (List.Sublist.cons_cons _ (List.Sublist.cons_cons _ (List.Sublist.append_left (List.sublist_cons_self _ _) _)))⟩)
  have hb : hisB d (cut2 d.turn pcs) = true := by
    cases h : hisB d (cut2 d.turn pcs) with
    | true => rfl
    | false => rw [h] at hv; cases hv
  rw [hb] at hv
  cases hv
  have eg : giveM d to pcs = (0, setT d.turn (setOwn to) (cut2 d.turn pcs)) := by unfold giveM; rw [hb]; rfl
  have hll : (setT d.turn (setOwn to) (cut2 d.turn pcs)).length = (cut2 d.turn pcs).length := by unfold setT; rw [List.length_map]
  rw [eg, hll]
  obtain ⟨pb, hpb⟩ := row_some hy.row (by rw [h3.eq]; intro h; exact hM (List.append_eq_nil_iff.1 (List.append_eq_nil_iff.1 h).2).1)
  unfold midV
  rw [hpb, mapAdd0]
  repeat' (first | refine rn ?_ | (refine zb ?_; intro _ _) | (refine za ?_; intro _ _) | (refine zs ?_; intro _ _))
  refine TC_loop (σ := Nat × Hp) (fun q => q.1 ≤ M.length ∧ Row 116 5 encPc y.ao y.cap q.2 (stepM (setOwn to) A M C q.1)) (fun q => [(2, .int .i64 to), (6, .slice (some ⟨pb, A.length * 5, none⟩) M.length (y.cap - A.length)), (12, .int .i64 M.length), (13, .int .i64 q.1)]) (fun q => bkH r b bm { y with ob := q.2 } (cut2 d.turn pcs).length ((b4, .cells (encDd d) 50) :: G)) (fun q => M.length - q.1) (0, y.ob) ⟨Nat.zero_le _, by rw [stepM_zero, ← h3.eq]; exact hy.row⟩ sb (fun w h => h) (fun q hq => ?_)
  obtain ⟨k, o⟩ := q
  obtain ⟨hk, hr⟩ := hq
  dsimp only at hk hr ⊢
  repeat' (first | refine rn ?_ | (refine zb ?_; intro _ _) | (refine za ?_; intro _ _) | (refine zs ?_; intro _ _))
  refine TC_cond_dec rfl (fun g1 => ?_) (fun g1 => ?_)
  · have hlt : k < M.length := by omega
    obtain ⟨p, hp⟩ : ∃ p, M[k]? = some p := ⟨_, List.getElem?_eq_getElem hlt⟩
    have hr' := hr
    unfold stepM at hr'
    rw [← List.append_assoc ((M.take k).map (setOwn to)), hpb] at hr'
    have hne' : ((M.take k).map (setOwn to) ++ M.drop k) ≠ [] := fun h => by have := congrArg List.length h; simp at this; omega
    have hlen' : ((M.take k).map (setOwn to) ++ M.drop k).length = M.length := by simp; omega
    have hsl : ∀ w', SH B w0 w' (bkH r b bm { y with ob := o } (cut2 d.turn pcs).length ((b4, .cells (encDd d) 50) :: G)) → Sl w' 5 encPc (some ⟨pb, A.length * 5, none⟩) ((M.take k).map (setOwn to) ++ M.drop k) := fun w' h => by
      have := mid_sl hr' hne' h (fun p hp => mem_bk0 hp)
      rw [mapAdd0] at this; exact this
    have hE : elA (some ⟨pb, A.length * 5, none⟩) 5 k 2 = elA y.ao 5 (A.length + k) 2 := by rw [elA_sh, hpb]
    repeat' (first | refine rn ?_ | (refine zb ?_; intro _ _) | (refine za ?_; intro _ _) | (refine zs ?_; intro _ _))
    refine TL_index k rfl rfl rfl hsl rfl (by omega) (by omega) ?_
    refine TL_fieldAddr_el rfl rfl hsl hne' ?_
    refine TL_store_el (enc := encPc) (i := A.length + k) (off := 2) (u := p) (u' := setOwn to p) (ao := y.ao) (fun o => bkH r b bm { y with ob := o } (cut2 d.turn pcs).length ((b4, .cells (encDd d) 50) :: G)) hr rfl (by rw [← hE]; rfl) rfl rfl rfl rfl (stepM_get _ A M C k hp) rfl rfl (fun _ _ _ => up) (fun o' hr2 => ?_)
    rw [stepM_succ _ A M C k hp] at hr2
    repeat' (first | refine rn ?_ | (refine zb ?_; intro _ _) | (refine za ?_; intro _ _) | (refine zs ?_; intro _ _))
    exact TQ_round (k + 1, o') ⟨by omega, hr2⟩ (by simp only; omega) sb (fun w h => h)
  · have hkl : k = M.length := by omega
    subst hkl
    rw [stepM_all, ← h3.set] at hr
    repeat' (first | refine rn ?_ | (refine zb ?_; intro _ _) | (refine za ?_; intro _ _) | (refine zs ?_; intro _ _))
    exact TQ_end0 Tryz.results187 (fun w' hs => ⟨{ y with ob := o }, ⟨hr, hy.map⟩, rfl, hs.sub (List.Sublist.cons_cons _ (List.Sublist.cons_cons _ (List.Sublist.append_left (List.sublist_cons_self _ _) _)))⟩)
end Go.Proofs.YtkpkebpofpcmaaaGreatDoor
/- Walks of the package deed: sale, gift, rent. -/
namespace Go.Proofs.YtkpkebpofpcmaaaGreatDoor
open Go Go.Eng Go.RowKit Go.Proofs
set_option maxHeartbeats 4000000
set_option maxRecDepth 10000
attribute [local irreducible] TL TC TQ

theorem c156 {B : Nat} {w0 : World} {G : Hp} (r : Ro) (b bm : Nat) (x : Lc) (pcs : List Pc) (dead : Int → Bool) (d : Dd) (e : Int) (hok : BkOk x pcs dead) (hch : chP e 0 pcs) (he : e ≤ 80000) (ht : Tn d.turn 0 e) (w : World) (hs : SH B w0 w (bkH r b bm x pcs.length G)) :
    Calls Tryz.prog 156 #[.pointer (some ⟨b, 0, none⟩), .agg (encDd d).toArray] w (EndP B w0 (fun _ : Lc => whyE (giveM d d.to pcs).1) (fun y => bkH r b bm y (giveM d d.to pcs).2.length G) (fun y => BkOk y (giveM d d.to pcs).2 dead)) := by
  refine enter (args := [.pointer (some ⟨b, 0, none⟩), .agg (encDd d).toArray]) Tryz.func156 rfl Tryz.ntmps156 rfl hs ?_
  repeat' (first | refine rn ?_ | (refine zb ?_; intro _ _) | (refine za ?_; intro _ _) | (refine zs ?_; intro _ _) | (refine nk ?_))
  rename_i b3 _
  refine TL_callP rfl rfl rfl (fun _ : Lc => whyE (giveM d d.to pcs).1) (fun y => bkH r b bm y (giveM d d.to pcs).2.length ((b3, .cells (encDd d) 50) :: G)) (fun y => BkOk y (giveM d d.to pcs).2 dead) (fun w h => c187 r b bm x pcs dead d d.to e hok hch he ht w (h.perm pm_in1)) (fun y v hy hv => ?_) (fun y v hy hv => ?_)
  · repeat' (first | refine rn ?_ | (refine zb ?_; intro _ _) | (refine za ?_; intro _ _) | (refine zs ?_; intro _ _))
    exact TQ_end0 Tryz.results156 (fun w' hs => ⟨y, hy, by rw [whyE_ok hv], hs.sub (List.Sublist.cons_cons _ (List.Sublist.cons_cons _ (List.Sublist.append_left (List.sublist_cons_self _ _) _)))⟩)
  · repeat (first | apply TQ_then_panic | apply TQ_block_panic)
    exact TQ_panic (fun w' hs => ⟨y, hy, by rw [hv], hs.sub (List.Sublist.cons_cons _ (List.Sublist.cons_cons _ (List.Sublist.append_left (List.sublist_cons_self _ _) _)))⟩)
theorem c157 {B : Nat} {w0 : World} {G : Hp} (r : Ro) (b bm : Nat) (x : Lc) (pcs : List Pc) (dead : Int → Bool) (d : Dd) (e : Int) (hok : BkOk x pcs dead) (hch : chP e 0 pcs) (he : e ≤ 80000) (ht : Tn d.turn 0 e) (w : World) (hs : SH B w0 w (bkH r b bm x pcs.length G)) :
    Calls Tryz.prog 157 #[.pointer (some ⟨b, 0, none⟩), .agg (encDd d).toArray] w (EndP B w0 (fun _ : Lc => whyE (giveM d 0 pcs).1) (fun y => bkH r b bm y (giveM d 0 pcs).2.length G) (fun y => BkOk y (giveM d 0 pcs).2 dead)) := by
  refine enter (args := [.pointer (some ⟨b, 0, none⟩), .agg (encDd d).toArray]) Tryz.func157 rfl Tryz.ntmps157 rfl hs ?_
  repeat' (first | refine rn ?_ | (refine zb ?_; intro _ _) | (refine za ?_; intro _ _) | (refine zs ?_; intro _ _) | (refine nk ?_))
  rename_i b3 _
  refine TL_callP rfl rfl rfl (fun _ : Lc => whyE (giveM d 0 pcs).1) (fun y => bkH r b bm y (giveM d 0 pcs).2.length ((b3, .cells (encDd d) 50) :: G)) (fun y => BkOk y (giveM d 0 pcs).2 dead) (fun w h => c187 r b bm x pcs dead d 0 e hok hch he ht w (h.perm pm_in1)) (fun y v hy hv => ?_) (fun y v hy hv => ?_)
  · repeat' (first | refine rn ?_ | (refine zb ?_; intro _ _) | (refine za ?_; intro _ _) | (refine zs ?_; intro _ _))
    exact TQ_end0 Tryz.results157 (fun w' hs => ⟨y, hy, by rw [whyE_ok hv], hs.sub (List.Sublist.cons_cons _ (List.Sublist.cons_cons _ (List.Sublist.append_left (List.sublist_cons_self _ _) _)))⟩)
  · repeat (first | apply TQ_then_panic | apply TQ_block_panic)
    exact TQ_panic (fun w' hs => ⟨y, hy, by rw [hv], hs.sub (List.Sublist.cons_cons _ (List.Sublist.cons_cons _ (List.Sublist.append_left (List.sublist_cons_self _ _) _)))⟩)
def setLet (d : Dd) (p : Pc) : Pc := { p with let_ := d.to, until_ := d.until_ }
def setLet1 (d : Dd) (p : Pc) : Pc := { p with let_ := d.to }
def letB (d : Dd) (l : List Pc) : Bool := l.any fun p => inT d.turn p && busyB p d.day
def rentM (d : Dd) (pcs : List Pc) : Int × List Pc := if hisB d (cut2 d.turn pcs) then if letB d (cut2 d.turn pcs) then (3, cut2 d.turn pcs) else (0, setT d.turn (setLet d) (cut2 d.turn pcs)) else (2, cut2 d.turn pcs)
theorem c159 {B : Nat} {w0 : World} {G : Hp} (r : Ro) (b bm : Nat) (x : Lc) (pcs : List Pc) (dead : Int → Bool) (d : Dd) (e : Int) (hok : BkOk x pcs dead) (hch : chP e 0 pcs) (he : e ≤ 80000) (ht : Tn d.turn 0 e) (w : World) (hs : SH B w0 w (bkH r b bm x pcs.length G)) :
    Calls Tryz.prog 159 #[.pointer (some ⟨b, 0, none⟩), .agg (encDd d).toArray] w (EndP B w0 (fun _ : Lc => whyE (rentM d pcs).1) (fun y => bkH r b bm y (rentM d pcs).2.length G) (fun y => BkOk y (rentM d pcs).2 dead)) := by
  obtain ⟨A, M, C, h3⟩ := split3 hch ht
  have hl2 := chP_len h3.ch
  have hMl : A.length + (M.length + C.length) = (cut2 d.turn pcs).length := by rw [h3.eq, List.length_append, List.length_append]
  have hMs : Small M.length := by unfold Small; omega
  have hM := h3.ne ht.2.1
  refine enter (args := [.pointer (some ⟨b, 0, none⟩), .agg (encDd d).toArray]) Tryz.func159 rfl Tryz.ntmps159 rfl hs ?_
  repeat' (first | refine rn ?_ | (refine zb ?_; intro _ _) | (refine za ?_; intro _ _) | (refine zs ?_; intro _ _) | (refine nk ?_))
  rename_i b3 _
  refine TL_callP rfl rfl rfl (fun y : Lc => hisE (hisB d (cut2 d.turn pcs)) y A M) (fun y => bkH r b bm y (cut2 d.turn pcs).length ((b3, .cells (encDd d) 50) :: G)) (fun y => BkOk y (cut2 d.turn pcs) dead) (fun w h => c194 r b bm x pcs dead d e A M C hok hch he ht h3 w (h.perm pm_in1)) (fun y v hy hv => ?_) (fun y v hy hv => ?_)
  rotate_left
  · have hb : hisB d (cut2 d.turn pcs) = false := by
      cases h : hisB d (cut2 d.turn pcs) with
      | false => rfl
      | true => rw [h] at hv; cases hv
    rw [hb] at hv
    cases hv
    have eg : rentM d pcs = (2, cut2 d.turn pcs) := by unfold rentM; rw [hb]; rfl
    rw [eg]
    repeat (first | apply TQ_then_panic | apply TQ_block_panic)
    exact TQ_panic (fun w' hs => ⟨y, hy, rfl, hs.sub (List.Sublist.cons_cons _ (List.Sublist.cons_cons _ (List.Sublist.append_left (List.sublist_cons_self _ _) _)))⟩)
  have hb : hisB d (cut2 d.turn pcs) = true := by
    cases h : hisB d (cut2 d.turn pcs) with
    | true => rfl
    | false => rw [h] at hv; cases hv
  rw [hb] at hv
  cases hv
  obtain ⟨pb, hpb⟩ := row_some hy.row (by rw [h3.eq]; intro h; exact hM (List.append_eq_nil_iff.1 (List.append_eq_nil_iff.1 h).2).1)
  unfold midV
  rw [hpb, mapAdd0]
  repeat' (first | refine rn ?_ | (refine zb ?_; intro _ _) | (refine za ?_; intro _ _) | (refine zs ?_; intro _ _))
  refine TL_callV rfl rfl rfl (fun w h => c195 (fun p : Pc => busyB p d.day) 196 [.pointer (some ⟨b3, 0, none⟩)] M _ _ hMs w (by have h4 := mid_sl (h3.eq ▸ hy.row) hM h (fun p hp => mem_bk0 hp); rw [hpb, mapAdd0] at h4; exact h4) (fun p _ w' hb => c196 p d b3 w' ((Sl.of_blk (enc := encDd) (k := 9) (l := [d]) h (mem_bk' (List.Mem.head _)) (fun _ _ => rfl) ⟨[], rfl⟩).mono hb))) ?_
  have ea : (M.any fun p : Pc => busyB p d.day) = letB d (cut2 d.turn pcs) := by unfold letB; rw [h3.any]
  rw [ea]
  repeat' (first | refine rn ?_ | (refine zb ?_; intro _ _) | (refine za ?_; intro _ _) | (refine zs ?_; intro _ _))
  refine TL_callE rfl rfl rfl (fun w h => c129 (!letB d (cut2 d.turn pcs)) 3 w) (fun v hv => ?_) (fun v hv => ?_)
  rotate_left
  · have hlb : letB d (cut2 d.turn pcs) = true := by
      cases h : letB d (cut2 d.turn pcs) with
      | true => rfl
      | false => rw [h] at hv; cases hv
    rw [hlb] at hv
    cases hv
    have eg : rentM d pcs = (3, cut2 d.turn pcs) := by unfold rentM; rw [hb, hlb]; rfl
    rw [eg]
    repeat (first | apply TQ_then_panic | apply TQ_block_panic)
    exact TQ_panic (fun w' hs => ⟨y, hy, rfl, hs.sub (List.Sublist.cons_cons _ (List.Sublist.cons_cons _ (List.Sublist.append_left (List.sublist_cons_self _ _) _)))⟩)
  have hlb : letB d (cut2 d.turn pcs) = false := by
    cases h : letB d (cut2 d.turn pcs) with
    | false => rfl
    | true => rw [h] at hv; cases hv
  have eg : rentM d pcs = (0, setT d.turn (setLet d) (cut2 d.turn pcs)) := by unfold rentM; rw [hb, hlb]; rfl
  have hll : (setT d.turn (setLet d) (cut2 d.turn pcs)).length = (cut2 d.turn pcs).length := by unfold setT; rw [List.length_map]
  rw [eg, hll]
  repeat' (first | refine rn ?_ | (refine zb ?_; intro _ _) | (refine za ?_; intro _ _) | (refine zs ?_; intro _ _))
  refine TC_loop (σ := Nat × Hp) (fun q => q.1 ≤ M.length ∧ Row 116 5 encPc y.ao y.cap q.2 (stepM (setLet d) A M C q.1)) (fun q => [(3, .pointer (some ⟨b3, 0, none⟩)), (4, .slice (some ⟨pb, A.length * 5, none⟩) M.length (y.cap - A.length)), (15, .int .i64 M.length), (16, .int .i64 q.1)]) (fun q => bkH r b bm { y with ob := q.2 } (cut2 d.turn pcs).length ((b3, .cells (encDd d) 50) :: G)) (fun q => M.length - q.1) (0, y.ob) ⟨Nat.zero_le _, by rw [stepM_zero, ← h3.eq]; exact hy.row⟩ sb (fun w h => h) (fun q hq => ?_)
  obtain ⟨k, o⟩ := q
  obtain ⟨hk, hr⟩ := hq
  dsimp only at hk hr ⊢
  repeat' (first | refine rn ?_ | (refine zb ?_; intro _ _) | (refine za ?_; intro _ _) | (refine zs ?_; intro _ _))
  refine TC_cond_dec rfl (fun g1 => ?_) (fun g1 => ?_)
  · have hlt : k < M.length := by omega
    obtain ⟨p, hp⟩ : ∃ p, M[k]? = some p := ⟨_, List.getElem?_eq_getElem hlt⟩
    have hgp := stepM_get (setLet d) A M C k hp
    obtain ⟨b1, cs, cs', e1, rfl, hput, hr1⟩ := hr.put (off := 3) (vs := [.int .i64 d.to]) (u' := setLet1 d p) hgp rfl rfl
    rw [hpb] at e1
    cases e1
    have hr' := hr
    unfold stepM at hr'
    rw [← List.append_assoc ((M.take k).map (setLet d)), hpb] at hr'
    have hne' : ((M.take k).map (setLet d) ++ M.drop k) ≠ [] := fun h => by have := congrArg List.length h; simp at this; omega
    have hlen' : ((M.take k).map (setLet d) ++ M.drop k).length = M.length := by simp; omega
    have hsl : ∀ (H : Hp) w', (pb, .cells cs 116) ∈ H → SH B w0 w' H → Sl w' 5 encPc (some ⟨pb, A.length * 5, none⟩) ((M.take k).map (setLet d) ++ M.drop k) := fun H w' hm h => by
      have := mid_sl hr' hne' h (fun p hp => by rw [List.mem_singleton.1 hp]; exact hm)
      rw [mapAdd0] at this; exact this
    have hE : elA (some ⟨pb, A.length * 5, none⟩) 5 k 4 = elA y.ao 5 (A.length + k) 4 := by rw [elA_sh, hpb]
    have hput' : putN (A.length * 5 + (k * 5 + 3)) [.int .i64 d.to] cs = some cs' := by rw [show A.length * 5 + (k * 5 + 3) = (A.length + k) * 5 + 3 by omega]; exact hput
    repeat' (first | refine rn ?_ | (refine zb ?_; intro _ _) | (refine za ?_; intro _ _) | (refine zs ?_; intro _ _))
    apply TC_draw5 11 10 31 2 [8, 9]; exact rfl; kernel_rfl; exact rfl; exact Tryz.mixed; exact rfl
    · iterate 8 (refine' pv5 ?_; rotate_left)
      (refine' PG5.vale rfl rfl rfl (by rintro  _X; refine TL_index k rfl rfl rfl (fun w h => hsl _ w mm h) rfl (by omega) (by omega) ?_; exact qe) ?_; rotate_left)
      (refine' PG5.vale rfl rfl rfl (by rintro  _X; refine TL_fieldAddr_el rfl rfl (fun w h => hsl _ w mm h) hne' ?_; exact qe) ?_; rotate_left)
      (refine' PG5.sto ([(pb, .cells cs' 116)]) rfl rfl (by intro _X; refine TL_store (b := pb) (cs := cs) (cs' := cs') (T := 116) rfl rfl rfl rfl rfl up hput' ?_; exact TL_nil (TQ_QD (fun _ h => h))) ?_; rotate_left)
      exact PG5.nil
    rintro _ _ rfl
    change TL _ _ _ _ _ _ _ _ _ _ _
    have hset := stepM_set (setLet d) A M C k (setLet1 d p) hlt
    have hr1' := hr1
    rw [hset, hpb] at hr1'
    have hne1 : ((M.take k).map (setLet d) ++ setLet1 d p :: M.drop (k + 1)) ≠ [] := by simp
    have hlen1 : ((M.take k).map (setLet d) ++ setLet1 d p :: M.drop (k + 1)).length = M.length := by simp; omega
    have hsl1 : ∀ (H : Hp) w', (pb, .cells cs' 116) ∈ H → SH B w0 w' H → Sl w' 5 encPc (some ⟨pb, A.length * 5, none⟩) ((M.take k).map (setLet d) ++ setLet1 d p :: M.drop (k + 1)) := fun H w' hm h => by
      have := mid_sl hr1' hne1 h (fun p hp => by rw [List.mem_singleton.1 hp]; exact hm)
      rw [mapAdd0] at this; exact this
    obtain ⟨b2, cs1, cs2, e1, e2, hput2, hr2⟩ := hr1.put (off := 4) (vs := [.int .i64 d.until_]) (u := setLet1 d p) (u' := setLet d p) (by rw [List.getElem?_set_self (by rw [stepM_len]; omega)]) rfl rfl
    rw [hpb] at e1
    cases e1
    cases e2
    rw [List.set_set, stepM_succ _ A M C k hp] at hr2
    have hput2' : putN (A.length * 5 + (k * 5 + 4)) [.int .i64 d.until_] cs' = some cs2 := by rw [show A.length * 5 + (k * 5 + 4) = (A.length + k) * 5 + 4 by omega]; exact hput2
    refine TL_index k rfl rfl rfl (fun w h => hsl1 _ w (List.mem_append_left _ (List.Mem.head _)) h) rfl (by omega) (by omega) ?_
    refine TL_fieldAddr_el rfl rfl (fun w h => hsl1 _ w (List.mem_append_left _ (List.Mem.head _)) h) hne1 ?_
    refine TL_store (b := pb) (cs := cs') (cs' := cs2) (T := 116) rfl rfl rfl rfl rfl (by exact Upd.head) hput2' ?_
    repeat' (first | refine rn ?_ | (refine zb ?_; intro _ _) | (refine za ?_; intro _ _) | (refine zs ?_; intro _ _))
    exact TQ_round (k + 1, [(pb, .cells cs2 116)]) ⟨by omega, hr2⟩ (by simp only; omega) sb (fun w h => h.perm pm_bk)
  · have hkl : k = M.length := by omega
    subst hkl
    rw [stepM_all, ← h3.set] at hr
    repeat' (first | refine rn ?_ | (refine zb ?_; intro _ _) | (refine za ?_; intro _ _) | (refine zs ?_; intro _ _))
    exact TQ_end0 Tryz.results159 (fun w' hs => ⟨{ y with ob := o }, ⟨hr, hy.map⟩, rfl, hs.sub (List.Sublist.cons_cons _ (List.Sublist.cons_cons _ (List.Sublist.append_left (List.sublist_cons_self _ _) _)))⟩)
end Go.Proofs.YtkpkebpofpcmaaaGreatDoor
