/- The engine of this claim's proofs, part 1: environments, symbolic heaps, and the rules for plain operations. It speaks of no program. -/
import Derived.WalkKit
import Derived.CallsIn
import Derived.TacticsIn
import Derived.OrdersIn
import Derived.Shelf.Abstract
import Derived.IntWalk
import Derived.Laws.StructEq
namespace Go.Eng
open Go Go.RowKit

/-! ### Environments -/
abbrev Env := List (Nat × Value)

def lk : Env → Nat → Option Value
  | [], _ => none
  | (k, v) :: L, n => match Nat.beq k n with
    | true => some v
    | false => lk L n

def ev (L : Env) : Operand → Option Value
  | .tmp t => lk L t
  | .const v => some v
  | .global g => some (.pointer (some ⟨g, 0, none⟩))
  | .func f => some (.func (.func f) #[] #[])

/-- The frame holds what the environment says. -/
structure Fr (N : Nat) (D : List Deferred) (L : Env) (a : Act) : Prop where
  size : a.tmps.size = N
  defers : a.defers = D
  get : ∀ k v, lk L k = some v → a.tmps[k]? = some v

theorem Fr.ev {N D L a x v} (h : Fr N D L a) (hx : ev L x = some v) : a.eval x = v := by
  cases x with
  | tmp t =>
    have := h.get t v hx
    simp [Act.eval, Array.getD_eq_getD_getElem?, this]
  | const u => simpa [Eng.ev, Act.eval] using hx
  | global g => simpa [Eng.ev, Act.eval] using hx
  | func f => simpa [Eng.ev, Act.eval] using hx

theorem lk_cons_same (L : Env) (d : Nat) (v : Value) : lk ((d, v) :: L) d = some v := by simp [lk]
theorem lk_cons_ne (L : Env) {d k : Nat} (v : Value) (h : d ≠ k) : lk ((d, v) :: L) k = lk L k := by
  have : Nat.beq d k = false := by
    cases hb : Nat.beq d k with
    | false => rfl
    | true => exact absurd (Nat.eq_of_beq_eq_true hb) h
  simp [lk, this]

theorem Fr.put {N D L a} (h : Fr N D L a) {d : Nat} (hd : Nat.blt d N = true) (v : Value) : Fr N D ((d, v) :: L) (a.put (some d) v) := by
  have hd' : d < N := by simpa [Nat.blt_eq] using hd
  refine ⟨by simp [Act.put, h.size], by simp [Act.put, h.defers], fun k u hk => ?_⟩
  by_cases hkd : d = k
  · subst hkd
    rw [lk_cons_same] at hk
    cases hk
    simp [Act.put, h.size, hd']
  · rw [lk_cons_ne L v hkd] at hk
    have := h.get k u hk
    simp [Act.put, hkd, this]

theorem Fr.put_none {N D L a} (h : Fr N D L a) (v : Value) : Fr N D L (a.put none v) := h

/-- A weaker environment. -/
def Sub (L' L : Env) : Prop := ∀ k v, lk L' k = some v → lk L k = some v
theorem Fr.sub {N D L L' a} (h : Fr N D L a) (hs : Sub L' L) : Fr N D L' a := ⟨h.size, h.defers, fun k v hk => h.get k v (hs k v hk)⟩
theorem Sub.nil (L : Env) : Sub [] L := fun _ _ h => by cases h
theorem Sub.cons {L L' : Env} {k : Nat} {v : Value} (h : lk L k = some v) (hs : Sub L' L) : Sub ((k, v) :: L') L := fun j u hj => by
  by_cases e : k = j
  · subst e; rw [lk_cons_same] at hj; cases hj; exact h
  · rw [lk_cons_ne _ _ e] at hj; exact hs j u hj
theorem Sub.refl (L : Env) : Sub L L := fun _ _ h => h

/-! ### Symbolic heaps -/
inductive Blk where
  | cells (c : List Value) (t : TypeId)
  | obj (o : Obj)
def Blk.toObj : Blk → Obj
  | .cells c t => .cells c.toArray t (0, 0)
  | .obj o => o
abbrev Hp := List (Nat × Blk)

/-- The world w, as it grew out of w0 (whose blocks below B it keeps), holds the blocks of H: all of them made since. -/
structure SH (B : Nat) (w0 w : World) (H : Hp) : Prop where
  base : B ≤ w0.heap.size
  below : Below B w0 w
  nodup : (H.map (·.1)).Nodup
  holds : ∀ b k, (b, k) ∈ H → B ≤ b ∧ w.heap[b]? = some k.toObj

theorem SH.lt {B w0 w H b k} (h : SH B w0 w H) (hm : (b, k) ∈ H) : b < w.heap.size :=
  (Array.getElem?_eq_some_iff.1 (h.holds b k hm).2).1

theorem SH.refl (w : World) : SH w.heap.size w w [] := ⟨Nat.le_refl _, Below.refl _ _, by simp, fun _ _ h => by cases h⟩
theorem SH.hB {B w0 w H} (h : SH B w0 w H) : B ≤ w.heap.size := Nat.le_trans h.base h.below.size

/-- What only lays new blocks (and draws) keeps the symbolic heap. -/
theorem SH.ext {B w0 w w' H} (h : SH B w0 w H) (hb : Below w.heap.size w w') : SH B w0 w' H :=
  ⟨h.base, h.below.trans (hb.mono h.hB), h.nodup, fun b k hm => ⟨(h.holds b k hm).1, by rw [hb.block b (h.lt hm)]; exact (h.holds b k hm).2⟩⟩

/-- A callee's new blocks join. -/
theorem SH.join {B w0 w w' H H'} (h : SH B w0 w H) (hc : SH w.heap.size w w' H') : SH B w0 w' (H' ++ H) := by
  have h1 := h.ext hc.below
  have hB := h.hB
  refine ⟨h.base, h1.below, ?_, fun b k hm => ?_⟩
  · rw [List.map_append, List.nodup_append]
    refine ⟨hc.nodup, h.nodup, fun x hx y hy e => ?_⟩
    obtain ⟨p, hp, rfl⟩ := List.mem_map.1 hx
    obtain ⟨q, hq, rfl⟩ := List.mem_map.1 hy
    have h2 := (hc.holds p.1 p.2 hp).1
    have h3 := h.lt (b := q.1) (k := q.2) hq
    omega
  · rcases List.mem_append.1 hm with hm | hm
    · exact ⟨Nat.le_trans hB (hc.holds b k hm).1, (hc.holds b k hm).2⟩
    · exact h1.holds b k hm

theorem SH.sub {B w0 w H H'} (h : SH B w0 w H) (hs : List.Sublist H' H) : SH B w0 w H' :=
  ⟨h.base, h.below, (hs.map (·.1)).nodup h.nodup, fun b k hm => h.holds b k (hs.mem hm)⟩
theorem SH.perm {B w0 w H H'} (h : SH B w0 w H) (hp : H'.Perm H) : SH B w0 w H' :=
  ⟨h.base, h.below, ((hp.map (·.1)).nodup_iff).2 h.nodup, fun b k hm => h.holds b k (hp.mem_iff.1 hm)⟩

theorem SH.alloc {B w0 w H} (h : SH B w0 w H) (k : Blk) : SH B w0 (w.alloc k.toObj) ((w.heap.size, k) :: H) := by
  have := SH.join (H' := [(w.heap.size, k)]) h (w' := w.alloc k.toObj) ⟨Nat.le_refl _, (Below.refl _ _).alloc (Nat.le_refl _) _, by simp, fun b j hm => by
    rw [List.mem_singleton] at hm; cases hm; exact ⟨Nat.le_refl _, heap_alloc_new w _⟩⟩
  exact this

theorem SH.drew {B w0 w H} (h : SH B w0 w H) : SH B w0 w.drew H := ⟨h.base, h.below.drew, h.nodup, h.holds⟩

/-- 'Upd H b k k' H'': H' is H with block b's contents k turned to k'. -/
inductive Upd : Hp → Nat → Blk → Blk → Hp → Prop
  | head {H b k k'} : Upd ((b, k) :: H) b k k' ((b, k') :: H)
  | tail {H b k k' H' x} : Upd H b k k' H' → Upd (x :: H) b k k' (x :: H')
  | right {H b k k' H' G} : Upd H b k k' H' → Upd (G ++ H) b k k' (G ++ H')

theorem Upd.mem {H b k k' H'} (h : Upd H b k k' H') : (b, k) ∈ H := by
  induction h with
  | head => exact List.mem_cons_self
  | tail _ ih => exact List.mem_cons_of_mem _ ih
  | right _ ih => exact List.mem_append_right _ ih
theorem Upd.keys {H b k k' H'} (h : Upd H b k k' H') : H'.map (·.1) = H.map (·.1) := by
  induction h with
  | head => rfl
  | tail _ ih => simp [ih]
  | right _ ih => simp [ih]
theorem Upd.mem' {H b k k' H'} (h : Upd H b k k' H') (hn : (H.map (·.1)).Nodup) : ∀ c j, (c, j) ∈ H' → (c = b ∧ j = k') ∨ (c ≠ b ∧ (c, j) ∈ H) := by
  induction h with
  | head =>
    rename_i H b k k'
    intro c j hm
    rcases List.mem_cons.1 hm with e | hm
    · cases e; exact .inl ⟨rfl, rfl⟩
    · refine .inr ⟨fun e => ?_, List.mem_cons_of_mem _ hm⟩
      simp only [List.map_cons, List.nodup_cons] at hn
      exact hn.1 (List.mem_map.2 ⟨_, hm, e⟩)
  | tail h0 ih =>
    rename_i H b k k' H' x
    intro c j hm
    simp only [List.map_cons, List.nodup_cons] at hn
    rcases List.mem_cons.1 hm with e | hm
    · subst e
      refine .inr ⟨fun e => ?_, List.mem_cons_self⟩
      subst e
      exact hn.1 (List.mem_map.2 ⟨_, h0.mem, rfl⟩)
    · rcases ih hn.2 c j hm with h | ⟨h1, h2⟩
      · exact .inl h
      · exact .inr ⟨h1, List.mem_cons_of_mem _ h2⟩
  | right h0 ih =>
    rename_i H b k k' H' G
    intro c j hm
    rw [List.map_append, List.nodup_append] at hn
    rcases List.mem_append.1 hm with hm | hm
    · refine .inr ⟨fun e => ?_, List.mem_append_left _ hm⟩
      subst e
      exact hn.2.2 _ (List.mem_map.2 ⟨_, hm, rfl⟩) _ (List.mem_map.2 ⟨_, h0.mem, rfl⟩) rfl
    · rcases ih hn.2.1 c j hm with h | ⟨h1, h2⟩
      · exact .inl h
      · exact .inr ⟨h1, List.mem_append_right _ h2⟩

/-- A world in which block b alone has turned. -/
theorem SH.upd {B w0 w w' H H' b k k'} (h : SH B w0 w H) (hu : Upd H b k k' H') (hos : w'.os = w.os) (ht : w'.tape = w.tape) (ho : w'.output = w.output)
    (hs : w'.heap.size = w.heap.size) (hb : w'.heap[b]? = some k'.toObj) (hother : ∀ c, c ≠ b → w'.heap[c]? = w.heap[c]?) : SH B w0 w' H' := by
  have hBb := (h.holds b k hu.mem).1
  refine ⟨h.base, ⟨hos.trans h.below.os, ht.trans h.below.tape, ho.trans h.below.output, by rw [hs]; exact h.below.size, fun c hc => ?_⟩, by rw [hu.keys]; exact h.nodup, fun c j hm => ?_⟩
  · rw [hother c (by omega)]; exact h.below.block c hc
  · rcases hu.mem' h.nodup c j hm with ⟨rfl, rfl⟩ | ⟨hne, hm⟩
    · exact ⟨hBb, hb⟩
    · exact ⟨(h.holds c j hm).1, by rw [hother c hne]; exact (h.holds c j hm).2⟩

/-! ### The judgements -/
/-- The fence of the engine: all is let; only whether we are in a round of a loop over a function is told. -/
def FW (r : Option Nat) : Fence := { fn := fun _ => True, depth := none, alive := false, round := r }

section
variable (r : Option Nat) (P : Program) (Q : Exit → Act → World → Prop) (N : Nat) (D : List Deferred) (B : Nat) (w0 : World) (L : Env) (H : Hp)
def TL (ops : Array Oper) (rest : List Oper) : Prop := ∀ a w, Fr N D L a → SH B w0 w H → wpListIn (FW r) 0 P ops Q rest a w
def TC (c : Code) : Prop := ∀ a w, Fr N D L a → SH B w0 w H → c.wpIn (FW r) 0 P Q a w
def TQ (e : Exit) : Prop := ∀ a w, Fr N D L a → SH B w0 w H → Q e a w
end

section
variable {r : Option Nat} {P : Program} {Q : Exit → Act → World → Prop} {N : Nat} {D : List Deferred} {B : Nat} {w0 : World} {L : Env} {H : Hp} {ops : Array Oper} {rest : List Oper}

theorem TC.weaken {c : Code} {L' : Env} {H' : Hp} (hL : Sub L' L) (hH : ∀ w, SH B w0 w H → SH B w0 w H') (h : TC r P Q N D B w0 L' H' c) : TC r P Q N D B w0 L H c :=
  fun a w hf hs => h a w (hf.sub hL) (hH w hs)
theorem TL.weaken {L' : Env} {H' : Hp} (hL : Sub L' L) (hH : ∀ w, SH B w0 w H → SH B w0 w H') (h : TL r P Q N D B w0 L' H' ops rest) : TL r P Q N D B w0 L H ops rest :=
  fun a w hf hs => h a w (hf.sub hL) (hH w hs)
theorem TC_seq {x y : Code} (h : TC r P (Exit.then (y.wpIn (FW r) 0 P Q) Q) N D B w0 L H x) : TC r P Q N D B w0 L H (.seq x y) :=
  fun a w hf hs => wpIn_seq (h a w hf hs)
theorem TC_skip (h : TQ Q N D B w0 L H .normal) : TC r P Q N D B w0 L H .skip := fun a w hf hs => wpIn_skip (h a w hf hs)
theorem TC_ret (h : TQ Q N D B w0 L H .ret) : TC r P Q N D B w0 L H .ret := fun a w hf hs => wpIn_ret (h a w hf hs)
theorem TC_exit {i : Nat} (h : TQ Q N D B w0 L H (.exit i)) : TC r P Q N D B w0 L H (.exit i) := fun a w hf hs => wpIn_exit (h a w hf hs)
theorem TC_label {i : Nat} (h : TQ Q N D B w0 L H .normal) : TC r P Q N D B w0 L H (.label i) := fun a w hf hs => wpIn_label (h a w hf hs)
theorem TC_block {i : Nat} {c : Code} (h : TC r P (Exit.inBlock i Q) N D B w0 L H c) : TC r P Q N D B w0 L H (.block i c) :=
  fun a w hf hs => wpIn_block (h a w hf hs)
theorem TC_region {i : Nat} {l : List Oper} (h : TL r P Q N D B w0 L H l.toArray l) : TC r P Q N D B w0 L H (.region i l.toArray false) :=
  fun a w hf hs => wpIn_region_lit (h a w hf hs)
theorem TC_cond {c : Operand} {x y : Code} {p : Bool} (hc : ev L c = some (.bool p)) (hx : p = true → TC r P Q N D B w0 L H x) (hy : p = false → TC r P Q N D B w0 L H y) :
    TC r P Q N D B w0 L H (.cond c x y) :=
  fun a w hf hs => wpIn_cond_split (hf.ev hc) (fun h => hx h a w hf hs) (fun h => hy h a w hf hs)
theorem TC_cond_dec {c : Operand} {x y : Code} {p : Prop} {_ : Decidable p} (hc : ev L c = some (.bool (decide p))) (hx : p → TC r P Q N D B w0 L H x) (hy : ¬ p → TC r P Q N D B w0 L H y) :
    TC r P Q N D B w0 L H (.cond c x y) :=
  TC_cond hc (fun h => hx (of_decide_eq_true h)) (fun h => hy (of_decide_eq_false h))
theorem TC_cond_t {c : Operand} {x y : Code} {p : Bool} (hc : ev L c = some (.bool p)) (hp : p = true) (hx : TC r P Q N D B w0 L H x) : TC r P Q N D B w0 L H (.cond c x y) :=
  TC_cond hc (fun _ => hx) (fun h => by rw [hp] at h; cases h)
theorem TC_cond_f {c : Operand} {x y : Code} {p : Bool} (hc : ev L c = some (.bool p)) (hp : p = false) (hy : TC r P Q N D B w0 L H y) : TC r P Q N D B w0 L H (.cond c x y) :=
  TC_cond hc (fun h => by rw [hp] at h; cases h) (fun _ => hy)

theorem TL_nil (h : TQ Q N D B w0 L H .normal) : TL r P Q N D B w0 L H ops [] := fun a w hf hs => wpListIn_nil (h a w hf hs)

theorem TQ_then {y : Code} (h : TC r P Q N D B w0 L H y) : TQ (Exit.then (y.wpIn (FW r) 0 P Q) Q) N D B w0 L H .normal := h
theorem TQ_then_exit {K : Act → World → Prop} {i : Nat} (h : TQ Q N D B w0 L H (.exit i)) : TQ (Exit.then K Q) N D B w0 L H (.exit i) := h
theorem TQ_then_ret {K : Act → World → Prop} (h : TQ Q N D B w0 L H .ret) : TQ (Exit.then K Q) N D B w0 L H .ret := h
theorem TQ_block {i : Nat} (h : TQ Q N D B w0 L H .normal) : TQ (Exit.inBlock i Q) N D B w0 L H .normal := h
theorem TQ_block_ret {i : Nat} (h : TQ Q N D B w0 L H .ret) : TQ (Exit.inBlock i Q) N D B w0 L H .ret := h
theorem TQ_block_exit {i j : Nat} (hij : j = i) (h : TQ Q N D B w0 L H .normal) : TQ (Exit.inBlock i Q) N D B w0 L H (.exit j) := fun a w hf hs => by
  subst hij; simpa [Exit.inBlock] using h a w hf hs
theorem TQ_block_exit_ne {i j : Nat} (hij : Nat.beq j i = false) (h : TQ Q N D B w0 L H (.exit j)) : TQ (Exit.inBlock i Q) N D B w0 L H (.exit j) := fun a w hf hs => by
  have : j ≠ i := fun e => by subst e; simp at hij
  simpa [Exit.inBlock, this] using h a w hf hs

/-! ### One operation -/
theorem semAt_any {o : Oper} (hnd : ∀ c, o.op ≠ .defer c) (a : Act) : o.semAt (FW r).round a.eval = execOp a.eval o := Oper.semAt_eq _ _ _ hnd

theorem TL_run {o : Oper} (hg : o.guard = none) (hnd : ∀ c, o.op ≠ .defer c)
    (h : ∀ a w, Fr N D L a → SH B w0 w H → o.uponIn (FW r) 0 P a (wpListIn (FW r) 0 P ops Q rest) Q ((execOp a.eval o).run P w)) : TL r P Q N D B w0 L H ops (o :: rest) := by
  intro a w hf hs
  unfold wpListIn
  rw [if_pos (by simp [Region.wanted, hg])]
  exact ⟨fun _ _ => trivial, by rw [semAt_any hnd]; exact h a w hf hs⟩

/-- An operation that yields a value and leaves the world as it is. -/
theorem TL_val {d : Nat} {op : Op} {ty : TypeId} {pos : String} {aft : Array Edge} (hnd : ∀ c, op ≠ .defer c) (hd : Nat.blt d N = true) (v : Value)
    (hrun : ∀ a w, Fr N D L a → SH B w0 w H → (execOp a.eval ⟨some d, op, ty, pos, aft, none⟩).run P w = .ok (.value v) w)
    (k : TL r P Q N D B w0 ((d, v) :: L) H ops rest) : TL r P Q N D B w0 L H ops (⟨some d, op, ty, pos, aft, none⟩ :: rest) :=
  TL_run rfl hnd fun a w hf hs => by
    rw [hrun a w hf hs]
    exact k _ _ (hf.put hd v) hs

/-- .. and may turn the world into one of another symbolic heap. -/
theorem TL_valw {d : Nat} {op : Op} {ty : TypeId} {pos : String} {aft : Array Edge} (hnd : ∀ c, op ≠ .defer c) (hd : Nat.blt d N = true) {X : Type} (val : X → Value) (H' : X → Hp) (Φ : X → Prop)
    (hrun : ∀ a w, Fr N D L a → SH B w0 w H → ∃ x w', Φ x ∧ (execOp a.eval ⟨some d, op, ty, pos, aft, none⟩).run P w = .ok (.value (val x)) w' ∧ SH B w0 w' (H' x))
    (k : ∀ x, Φ x → TL r P Q N D B w0 ((d, val x) :: L) (H' x) ops rest) : TL r P Q N D B w0 L H ops (⟨some d, op, ty, pos, aft, none⟩ :: rest) :=
  TL_run rfl hnd fun a w hf hs => by
    obtain ⟨x, w', hx, hr, hs'⟩ := hrun a w hf hs
    rw [hr]
    exact k x hx _ _ (hf.put hd _) hs'

theorem TL_skipw {op : Op} {ty : TypeId} {pos : String} {aft : Array Edge} (hnd : ∀ c, op ≠ .defer c) (H' : Hp)
    (hrun : ∀ a w, Fr N D L a → SH B w0 w H → ∃ w', (execOp a.eval ⟨none, op, ty, pos, aft, none⟩).run P w = .ok .skip w' ∧ SH B w0 w' H')
    (k : TL r P Q N D B w0 L H' ops rest) : TL r P Q N D B w0 L H ops (⟨none, op, ty, pos, aft, none⟩ :: rest) :=
  TL_run rfl hnd fun a w hf hs => by
    obtain ⟨w', hr, hs'⟩ := hrun a w hf hs
    rw [hr]
    exact k _ _ (hf.put_none _) hs'

/-! ### Guards -/
theorem TL_guard_yes {d : Option Nat} {op : Op} {ty : TypeId} {pos : String} {aft : Array Edge} {j : Nat} {b p : Bool} {dj : Nat} (hj : ((ops[j]?).bind (·.dst)) = some dj) (hl : lk L dj = some (.bool p)) (hp : p = b)
    (h : TL r P Q N D B w0 L H ops (⟨d, op, ty, pos, aft, none⟩ :: rest)) : TL r P Q N D B w0 L H ops (⟨d, op, ty, pos, aft, some (j, b)⟩ :: rest) := by
  intro a w hf hs
  have h1 := h a w hf hs
  have hy : yielded ops a.tmps j = some b := by
    have := hf.get _ _ hl
    simp [yielded, hj, this, hp]
  unfold wpListIn at h1 ⊢
  rw [if_pos (by simp [Region.wanted])] at h1
  rw [if_pos (by simp [Region.wanted, hy])]
  exact h1

theorem TL_guard_no {d : Nat} {op : Op} {ty : TypeId} {pos : String} {aft : Array Edge} {j : Nat} {b p : Bool} {dj : Nat} (hj : ((ops[j]?).bind (·.dst)) = some dj) (hl : lk L dj = some (.bool p)) (hp : p = !b)
    (hd : Nat.blt d N = true) (h : TL r P Q N D B w0 ((d, undef) :: L) H ops rest) : TL r P Q N D B w0 L H ops (⟨some d, op, ty, pos, aft, some (j, b)⟩ :: rest) := by
  intro a w hf hs
  have hy : yielded ops a.tmps j = some (!b) := by
    have := hf.get _ _ hl
    simp [yielded, hj, this, hp]
  unfold wpListIn
  rw [if_neg (by simp [Region.wanted, hy])]
  exact ⟨fun _ _ => trivial, h _ _ (hf.put hd _) hs⟩
end
end Go.Eng
/- The engine, part 2: the rules of the single operations. -/
namespace Go.Eng
open Go Go.RowKit

/-! ### Lists of cells -/
def dropN : Nat → List Value → List Value
  | 0, l => l
  | n + 1, l => match l with
    | [] => []
    | _ :: l => dropN n l
def takeN : Nat → List Value → Option (List Value)
  | 0, _ => some []
  | n + 1, l => match l with
    | [] => none
    | v :: l => match takeN n l with
      | some k => some (v :: k)
      | none => none
/-- 'vs' laid over 'cs' from its head on. -/
def overN : List Value → List Value → Option (List Value)
  | [], cs => some cs
  | v :: vs, cs => match cs with
    | [] => none
    | _ :: cs => match overN vs cs with
      | some k => some (v :: k)
      | none => none
/-- 'vs' laid over 'cs' from place n on. -/
def putN : Nat → List Value → List Value → Option (List Value)
  | 0, vs, cs => overN vs cs
  | n + 1, vs, cs => match cs with
    | [] => none
    | c :: cs => match putN n vs cs with
      | some k => some (c :: k)
      | none => none

theorem dropN_eq (n : Nat) : ∀ l : List Value, dropN n l = l.drop n := by
  induction n with
  | zero => intro l; rfl
  | succ n ih => intro l; cases l <;> simp [dropN, ih]
theorem takeN_some {n : Nat} : ∀ {l k : List Value}, takeN n l = some k → k = l.take n ∧ n ≤ l.length := by
  induction n with
  | zero => intro l k h; simp [takeN] at h; subst h; simp
  | succ n ih =>
    intro l k h
    cases l with
    | nil => simp [takeN] at h
    | cons v l =>
      simp only [takeN] at h
      split at h
      · rename_i k' hk'
        cases h
        obtain ⟨h1, h2⟩ := ih hk'
        exact ⟨by simp [h1], by simpa using h2⟩
      · cases h
theorem overN_some : ∀ {vs cs k : List Value}, overN vs cs = some k → k = vs ++ cs.drop vs.length ∧ vs.length ≤ cs.length := by
  intro vs
  induction vs with
  | nil => intro cs k h; simp [overN] at h; subst h; simp
  | cons v vs ih =>
    intro cs k h
    cases cs with
    | nil => simp [overN] at h
    | cons c cs =>
      simp only [overN] at h
      split at h
      · rename_i k' hk'
        cases h
        obtain ⟨h1, h2⟩ := ih hk'
        exact ⟨by simp [h1], by simpa using h2⟩
      · cases h
theorem putN_some {n : Nat} : ∀ {vs cs k : List Value}, putN n vs cs = some k → k = cs.take n ++ vs ++ cs.drop (n + vs.length) ∧ n + vs.length ≤ cs.length := by
  induction n with
  | zero => intro vs cs k h; obtain ⟨h1, h2⟩ := overN_some h; simp [h1, h2]
  | succ n ih =>
    intro vs cs k h
    cases cs with
    | nil => simp [putN] at h
    | cons c cs =>
      simp only [putN] at h
      split at h
      · rename_i k' hk'
        cases h
        obtain ⟨h1, h2⟩ := ih hk'
        refine ⟨by simp [h1, Nat.add_right_comm], by simp; omega⟩
      · cases h

def oneCells : List Value → Bool
  | [] => true
  | v :: l => match v with
    | .agg _ => false
    | .tuple _ => false
    | _ => oneCells l
theorem oneCells_mem : ∀ {l : List Value}, oneCells l = true → ∀ v ∈ l, v.oneCell' = true := by
  intro l
  induction l with
  | nil => intro _ v hv; cases hv
  | cons x l ih =>
    intro h v hv
    rcases List.mem_cons.1 hv with rfl | hv
    · cases v <;> simp [oneCells] at h <;> rfl
    · exact ih (by cases x <;> simp [oneCells] at h <;> exact h) v hv

/-! ### What the program's tables say of types -/
/-- A type's cells, whether it is a struct or an array, its zero cells. -/
class TyP (P : Program) (t : TypeId) (sz : outParam Nat) (ag : outParam Bool) (z : outParam (List Value)) : Prop where
  info : ∃ i v, P.info? t = some i ∧ i.size = sz ∧ i.zero = some v ∧ v.cells = z.toArray
  ag : ∀ w, (isAgg t).run P w = .ok ag w

def aggB : TypeDesc → Bool
  | .struct _ => true
  | .array _ _ => true
  | _ => false

theorem TyP.mk' {P : Program} {t : TypeId} {sz : Nat} {z : List Value} {v : Value} {d : TypeDesc} {ag : Bool} (h : (P.info? t).map (fun i => (i.size, i.zero)) = some (sz, some v)) (hv : v.cells = z.toArray)
    (hu : P.underlying t = some d) (ha : aggB d = ag) : TyP P t sz ag z := by
  refine ⟨?_, fun w => ?_⟩
  · obtain ⟨i, hi, hz⟩ := Option.map_eq_some_iff.1 h
    simp only [Prod.mk.injEq] at hz
    exact ⟨i, v, hi, hz.1, hz.2, hv⟩
  · subst ha
    unfold isAgg
    simp only [Sem.run_bind, run_underlying hu, Result.andThen]
    cases d <;> rfl

/-- Field f of struct type s lies 'off' cells behind its head. -/
class FldP (P : Program) (s f : Nat) (off : outParam Nat) : Prop where
  run : ∀ a w, (Instr.fieldAt s (.pointer (some a)) f).run P w = .ok (.pointer (some (a.add off))) w
/-- Type t is a slice of e's. -/
class SlcP (P : Program) (t : TypeId) (e : outParam TypeId) : Prop where
  u : P.underlying t = some (.slice e)
/-- Type t is an integer kind. -/
class IntP (P : Program) (t : TypeId) (kd : outParam IntKind) : Prop where
  u : P.underlying t = some (.int kd)
/-- A value of type t takes so many bytes. -/
class BytP (P : Program) (t : TypeId) (n : outParam Nat) : Prop where
  b : P.bytesOf t = n

theorem FldP.mk' {P : Program} {s f off : Nat} {fs : Array Field} {fd : Field} {sz : Nat} (hu : P.underlying s = some (.struct fs)) (hf : fs[f]? = some fd) (ho : fd.offset = off)
    (hsz : (P.info? fd.type).map (·.size) = some sz) (hn : (sz == 0) = false) : FldP P s f off := by
  refine ⟨fun a w => ?_⟩
  obtain ⟨i, hi, hz⟩ := Option.map_eq_some_iff.1 hsz
  have hn' : sz ≠ 0 := by simpa using hn
  subst ho
  simp [Instr.fieldAt, run_underlying hu, hf, Instr.sureAddr, fieldPlace, sizeOf, typeInfo, hi, hz, hn']

section
variable {r : Option Nat} {P : Program} {Q : Exit → Act → World → Prop} {N : Nat} {D : List Deferred} {B : Nat} {w0 : World} {L : Env} {H : Hp} {ops : Array Oper} {rest : List Oper}
variable {d : Nat} {ty : TypeId} {pos : String} {aft : Array Edge}

/-! ### Pure operations -/
theorem TL_move {x : Operand} {v : Value} (hd : Nat.blt d N = true) (hx : ev L x = some v) (k : TL r P Q N D B w0 ((d, v) :: L) H ops rest) : TL r P Q N D B w0 L H ops (⟨some d, .move x, ty, pos, aft, none⟩ :: rest) :=
  TL_val (by simp) hd v (fun a w hf _ => by simp [execOp, hf.ev hx]) k
theorem TL_assign {x : Operand} {v : Value} (hd : Nat.blt d N = true) (hx : ev L x = some v) (k : TL r P Q N D B w0 ((d, v) :: L) H ops rest) : TL r P Q N D B w0 L H ops (⟨some d, .assign x, ty, pos, aft, none⟩ :: rest) :=
  TL_val (by simp) hd v (fun a w hf _ => by simp [execOp, hf.ev hx]) k
def pickO : Bool → Operand → Operand → Operand
  | true, x, _ => x
  | false, _, y => y
theorem TL_pick {c x y : Operand} {p : Bool} {v : Value} (hd : Nat.blt d N = true) (hc : ev L c = some (.bool p)) (hv : ev L (pickO p x y) = some v) (k : TL r P Q N D B w0 ((d, v) :: L) H ops rest) :
    TL r P Q N D B w0 L H ops (⟨some d, .pick c x y, ty, pos, aft, none⟩ :: rest) :=
  TL_val (by simp) hd v (fun a w hf _ => by
    cases p
    · simp only [pickO] at hv; simp [execOp, hf.ev hc, asBool, hf.ev hv]
    · simp only [pickO] at hv; simp [execOp, hf.ev hc, asBool, hf.ev hv]) k

theorem wrap_i64_of {n : Int} (h : -9223372036854775808 ≤ n ∧ n ≤ 9223372036854775807) : IntKind.i64.wrap n = n := IntWalk.i64_in n h

theorem TL_arith {op : BinOp} {t t' : TypeId} {x y : Operand} {kd : IntKind} {m n : Int} {v : Value} (hd : Nat.blt d N = true) (hx : ev L x = some (.int kd m)) (hy : ev L y = some (.int kd n))
    (hv : ∀ w : World, (eqGuard op t x y (.int kd m) (.int kd n)).run P w = .ok () w ∧ (Go.binOp op t (.int kd m) (.int kd n)).run P w = .ok v w) (k : TL r P Q N D B w0 ((d, v) :: L) H ops rest) :
    TL r P Q N D B w0 L H ops (⟨some d, .binOp op t x y t', ty, pos, aft, none⟩ :: rest) :=
  TL_val (by simp) hd v (fun a w hf _ => by
    simp only [execOp, hf.ev hx, hf.ev hy, Sem.run_bind, (hv w).1, Result.andThen, (hv w).2]; rfl) k

theorem TL_add {t t' : TypeId} {x y : Operand} {m n : Int} (hd : Nat.blt d N = true) (hx : ev L x = some (.int .i64 m)) (hy : ev L y = some (.int .i64 n)) (hr : -9223372036854775808 ≤ m + n ∧ m + n ≤ 9223372036854775807)
    (k : TL r P Q N D B w0 ((d, .int .i64 (m + n)) :: L) H ops rest) : TL r P Q N D B w0 L H ops (⟨some d, .binOp .add t x y t', ty, pos, aft, none⟩ :: rest) :=
  TL_arith hd hx hy (fun w => ⟨rfl, by simp [Go.binOp, Op.intArith, wrap_i64_of hr]⟩) k
theorem TL_sub {t t' : TypeId} {x y : Operand} {m n : Int} (hd : Nat.blt d N = true) (hx : ev L x = some (.int .i64 m)) (hy : ev L y = some (.int .i64 n)) (hr : -9223372036854775808 ≤ m - n ∧ m - n ≤ 9223372036854775807)
    (k : TL r P Q N D B w0 ((d, .int .i64 (m - n)) :: L) H ops rest) : TL r P Q N D B w0 L H ops (⟨some d, .binOp .sub t x y t', ty, pos, aft, none⟩ :: rest) :=
  TL_arith hd hx hy (fun w => ⟨rfl, by simp [Go.binOp, Op.intArith, wrap_i64_of hr]⟩) k
theorem TL_mul {t t' : TypeId} {x y : Operand} {m n : Int} (hd : Nat.blt d N = true) (hx : ev L x = some (.int .i64 m)) (hy : ev L y = some (.int .i64 n)) (hr : -9223372036854775808 ≤ m * n ∧ m * n ≤ 9223372036854775807)
    (k : TL r P Q N D B w0 ((d, .int .i64 (m * n)) :: L) H ops rest) : TL r P Q N D B w0 L H ops (⟨some d, .binOp .mul t x y t', ty, pos, aft, none⟩ :: rest) :=
  TL_arith hd hx hy (fun w => ⟨rfl, by simp [Go.binOp, Op.intArith, wrap_i64_of hr]⟩) k
theorem TL_quo {t t' : TypeId} {x y : Operand} {m n : Int} (hd : Nat.blt d N = true) (hx : ev L x = some (.int .i64 m)) (hy : ev L y = some (.int .i64 n)) (hn : n ≠ 0) (hr : -9223372036854775808 ≤ m.tdiv n ∧ m.tdiv n ≤ 9223372036854775807)
    (k : TL r P Q N D B w0 ((d, .int .i64 (m.tdiv n)) :: L) H ops rest) : TL r P Q N D B w0 L H ops (⟨some d, .binOp .quo t x y t', ty, pos, aft, none⟩ :: rest) :=
  TL_arith hd hx hy (fun w => ⟨rfl, by simp [Go.binOp, Op.intDiv, hn, wrap_i64_of hr]⟩) k
theorem TL_quo_nn {t t' : TypeId} {x y : Operand} {m n : Int} (hd : Nat.blt d N = true) (hx : ev L x = some (.int .i64 m)) (hy : ev L y = some (.int .i64 n)) (hm : 0 ≤ m ∧ m ≤ 9223372036854775807) (hn : 0 < n)
    (k : TL r P Q N D B w0 ((d, .int .i64 (m / n)) :: L) H ops rest) : TL r P Q N D B w0 L H ops (⟨some d, .binOp .quo t x y t', ty, pos, aft, none⟩ :: rest) := by
  have h1 : m.tdiv n = m / n := Int.tdiv_eq_ediv_of_nonneg hm.1
  have h2 : 0 ≤ m / n := Int.ediv_nonneg hm.1 (by omega)
  have h3 : m / n ≤ m := Int.ediv_le_self _ hm.1
  exact TL_quo hd hx hy (by omega) (by rw [h1]; omega) (by rw [h1]; exact k)
theorem TL_rem {t t' : TypeId} {kd : IntKind} {x y : Operand} {m n : Int} (hd : Nat.blt d N = true) (hx : ev L x = some (.int kd m)) (hy : ev L y = some (.int kd n)) (hn : n ≠ 0)
    (k : TL r P Q N D B w0 ((d, .int kd (m.tmod n)) :: L) H ops rest) : TL r P Q N D B w0 L H ops (⟨some d, .binOp .rem t x y t', ty, pos, aft, none⟩ :: rest) :=
  TL_arith hd hx hy (fun w => ⟨rfl, by simp [Go.binOp, Op.intDiv, hn]⟩) k
theorem TL_rem_nn {t t' : TypeId} {kd : IntKind} {x y : Operand} {m n : Int} (hd : Nat.blt d N = true) (hx : ev L x = some (.int kd m)) (hy : ev L y = some (.int kd n)) (hm : 0 ≤ m) (hn : 0 < n)
    (k : TL r P Q N D B w0 ((d, .int kd (m % n)) :: L) H ops rest) : TL r P Q N D B w0 L H ops (⟨some d, .binOp .rem t x y t', ty, pos, aft, none⟩ :: rest) := by
  have h1 : m.tmod n = m % n := Int.tmod_eq_emod_of_nonneg hm
  exact TL_rem hd hx hy (by omega) (by rw [h1]; exact k)
theorem TL_lss {t t' : TypeId} {kd : IntKind} {x y : Operand} {m n : Int} (hd : Nat.blt d N = true) (hx : ev L x = some (.int kd m)) (hy : ev L y = some (.int kd n))
    (k : TL r P Q N D B w0 ((d, .bool (decide (m < n))) :: L) H ops rest) : TL r P Q N D B w0 L H ops (⟨some d, .binOp .lss t x y t', ty, pos, aft, none⟩ :: rest) :=
  TL_arith hd hx hy (fun w => ⟨rfl, by simp [Go.binOp, Op.intCmp]⟩) k
theorem TL_leq {t t' : TypeId} {kd : IntKind} {x y : Operand} {m n : Int} (hd : Nat.blt d N = true) (hx : ev L x = some (.int kd m)) (hy : ev L y = some (.int kd n))
    (k : TL r P Q N D B w0 ((d, .bool (decide (m ≤ n))) :: L) H ops rest) : TL r P Q N D B w0 L H ops (⟨some d, .binOp .leq t x y t', ty, pos, aft, none⟩ :: rest) :=
  TL_arith hd hx hy (fun w => ⟨rfl, by simp [Go.binOp, Op.intCmp]⟩) k
theorem TL_gtr {t t' : TypeId} {kd : IntKind} {x y : Operand} {m n : Int} (hd : Nat.blt d N = true) (hx : ev L x = some (.int kd m)) (hy : ev L y = some (.int kd n))
    (k : TL r P Q N D B w0 ((d, .bool (decide (n < m))) :: L) H ops rest) : TL r P Q N D B w0 L H ops (⟨some d, .binOp .gtr t x y t', ty, pos, aft, none⟩ :: rest) :=
  TL_arith hd hx hy (fun w => ⟨rfl, by simp [Go.binOp, Op.intCmp]⟩) k
theorem TL_geq {t t' : TypeId} {kd : IntKind} {x y : Operand} {m n : Int} (hd : Nat.blt d N = true) (hx : ev L x = some (.int kd m)) (hy : ev L y = some (.int kd n))
    (k : TL r P Q N D B w0 ((d, .bool (decide (n ≤ m))) :: L) H ops rest) : TL r P Q N D B w0 L H ops (⟨some d, .binOp .geq t x y t', ty, pos, aft, none⟩ :: rest) :=
  TL_arith hd hx hy (fun w => ⟨rfl, by simp [Go.binOp, Op.intCmp]⟩) k
theorem beq_dec (m n : Int) : (m == n) = decide (m = n) := by rw [Bool.eq_iff_iff]; simp
theorem bne_dec (m n : Int) : (m != n) = decide (m ≠ n) := by rw [Bool.eq_iff_iff]; simp
theorem TL_eql {t t' : TypeId} {kd : IntKind} {x y : Operand} {m n : Int} (hd : Nat.blt d N = true) (hx : ev L x = some (.int kd m)) (hy : ev L y = some (.int kd n))
    (k : TL r P Q N D B w0 ((d, .bool (decide (m = n))) :: L) H ops rest) : TL r P Q N D B w0 L H ops (⟨some d, .binOp .eql t x y t', ty, pos, aft, none⟩ :: rest) :=
  TL_arith hd hx hy (fun w => ⟨rfl, by simp only [Go.binOp, Op.intCmp, beq_dec, ne_eq, not_true_eq_false, if_false]; rfl⟩) k
theorem TL_neq {t t' : TypeId} {kd : IntKind} {x y : Operand} {m n : Int} (hd : Nat.blt d N = true) (hx : ev L x = some (.int kd m)) (hy : ev L y = some (.int kd n))
    (k : TL r P Q N D B w0 ((d, .bool (decide (m ≠ n))) :: L) H ops rest) : TL r P Q N D B w0 L H ops (⟨some d, .binOp .neq t x y t', ty, pos, aft, none⟩ :: rest) :=
  TL_arith hd hx hy (fun w => ⟨rfl, by simp only [Go.binOp, Op.intCmp, bne_dec, ne_eq, not_true_eq_false, if_false]; rfl⟩) k
theorem TL_not_dec {t : TypeId} {x : Operand} {p : Prop} {_ : Decidable p} (hd : Nat.blt d N = true) (hx : ev L x = some (.bool (decide p)))
    (k : TL r P Q N D B w0 ((d, .bool (decide (¬ p))) :: L) H ops rest) : TL r P Q N D B w0 L H ops (⟨some d, .unOp .not t x, ty, pos, aft, none⟩ :: rest) :=
  TL_val (by simp) hd _ (fun a w hf _ => by simp [execOp, hf.ev hx, Op.unary]) k
theorem TL_not {t : TypeId} {x : Operand} {p : Bool} (hd : Nat.blt d N = true) (hx : ev L x = some (.bool p))
    (k : TL r P Q N D B w0 ((d, .bool (!p)) :: L) H ops rest) : TL r P Q N D B w0 L H ops (⟨some d, .unOp .not t x, ty, pos, aft, none⟩ :: rest) :=
  TL_val (by simp) hd _ (fun a w hf _ => by simp [execOp, hf.ev hx, Op.unary]) k
theorem TL_neg {t : TypeId} {x : Operand} {m : Int} (hd : Nat.blt d N = true) (hx : ev L x = some (.int .i64 m)) (hr : -9223372036854775808 ≤ -m ∧ -m ≤ 9223372036854775807)
    (k : TL r P Q N D B w0 ((d, .int .i64 (-m)) :: L) H ops rest) : TL r P Q N D B w0 L H ops (⟨some d, .unOp .neg t x, ty, pos, aft, none⟩ :: rest) :=
  TL_val (by simp) hd _ (fun a w hf _ => by simp [execOp, hf.ev hx, Op.unary, Op.intArith, wrap_i64_of hr]) k

theorem TL_extract {x : Operand} {i : Nat} {vs : List Value} {v : Value} (hd : Nat.blt d N = true) (hx : ev L x = some (.tuple vs.toArray)) (hv : vs[i]? = some v)
    (k : TL r P Q N D B w0 ((d, v) :: L) H ops rest) : TL r P Q N D B w0 L H ops (⟨some d, .extract x i, ty, pos, aft, none⟩ :: rest) :=
  TL_val (by simp) hd v (fun a w hf _ => by simp [execOp, hf.ev hx, Instr.extract, hv]) k
theorem TL_makeFunc {fn : Fn} {first cap : List Operand} {fl cl : List Value} (hd : Nat.blt d N = true) (hfl : first.mapM (ev L) = some fl) (hcl : cap.mapM (ev L) = some cl)
    (k : TL r P Q N D B w0 ((d, .func fn fl.toArray cl.toArray) :: L) H ops rest) : TL r P Q N D B w0 L H ops (⟨some d, .makeFunc fn first.toArray cap.toArray, ty, pos, aft, none⟩ :: rest) := by
  have key : ∀ (a : Act) (hf : Fr N D L a) (l : List Operand) (vl : List Value), l.mapM (ev L) = some vl → l.map a.eval = vl := by
    intro a hf l
    induction l with
    | nil => intro vl h; simp at h; simp [h]
    | cons x l ih =>
      intro vl h
      simp only [List.mapM_cons, Option.pure_def, Option.bind_eq_bind, Option.bind_eq_some_iff] at h
      obtain ⟨v, h1, vl', h2, h3⟩ := h
      cases h3
      simp [hf.ev h1, ih _ h2]
  exact TL_val (by simp) hd _ (fun a w hf _ => by simp [execOp, key a hf _ _ hfl, key a hf _ _ hcl, Instr.makeFunc]) k
theorem TL_len {t : TypeId} {e : TypeId} {x : Operand} {ao : Option Addr} {n c : Nat} (hd : Nat.blt d N = true) [hu : SlcP P t e] (hx : ev L x = some (.slice ao n c))
    (k : TL r P Q N D B w0 ((d, .int .i64 (n : Int)) :: L) H ops rest) :
    TL r P Q N D B w0 L H ops (⟨some d, .call { callee := .builtin .len, args := #[x], argTypes := #[t] }, ty, pos, aft, none⟩ :: rest) :=
  TL_val (by simp) hd _ (fun a w hf _ => by simp [execOp, hf.ev hx, resolve, invoke, Go.builtin, Builtin.len_, run_underlying hu.u, goInt]) k
theorem min2_run (kd : IntKind) (m n : Int) (w : World) : (Builtin.min2 (.int kd m) (.int kd n)).run P w = .ok (.int kd (min m n)) w := by
  simp only [Builtin.min2]
  show Result.ok _ _ = _
  congr 2; omega
theorem max2_run (kd : IntKind) (m n : Int) (w : World) : (Builtin.max2 (.int kd m) (.int kd n)).run P w = .ok (.int kd (max m n)) w := by
  simp only [Builtin.max2]
  show Result.ok _ _ = _
  congr 2; omega
theorem TL_min {t t' : TypeId} {x y : Operand} {kd : IntKind} {m n : Int} (hd : Nat.blt d N = true) (hx : ev L x = some (.int kd m)) (hy : ev L y = some (.int kd n))
    (k : TL r P Q N D B w0 ((d, .int kd (min m n)) :: L) H ops rest) :
    TL r P Q N D B w0 L H ops (⟨some d, .call { callee := .builtin .min, args := #[x, y], argTypes := #[t, t'] }, ty, pos, aft, none⟩ :: rest) :=
  TL_val (by simp) hd _ (fun a w hf _ => by simp [execOp, hf.ev hx, hf.ev hy, resolve, invoke, Go.builtin, Builtin.min_, min2_run]) k
theorem TL_max {t t' : TypeId} {x y : Operand} {kd : IntKind} {m n : Int} (hd : Nat.blt d N = true) (hx : ev L x = some (.int kd m)) (hy : ev L y = some (.int kd n))
    (k : TL r P Q N D B w0 ((d, .int kd (max m n)) :: L) H ops rest) :
    TL r P Q N D B w0 L H ops (⟨some d, .call { callee := .builtin .max, args := #[x, y], argTypes := #[t, t'] }, ty, pos, aft, none⟩ :: rest) :=
  TL_val (by simp) hd _ (fun a w hf _ => by simp [execOp, hf.ev hx, hf.ev hy, resolve, invoke, Go.builtin, Builtin.max_, max2_run]) k
theorem TL_convert {s e : TypeId} {x : Operand} {k1 k2 : IntKind} {n : Int} (hd : Nat.blt d N = true) [hs : IntP P s k1] [he : IntP P e k2] (hx : ev L x = some (.int k1 n))
    (k : TL r P Q N D B w0 ((d, .int k2 (k2.wrap n)) :: L) H ops rest) : TL r P Q N D B w0 L H ops (⟨some d, .convert s e x, ty, pos, aft, none⟩ :: rest) :=
  TL_val (by simp) hd _ (fun a w hf _ => by
    simp only [execOp, hf.ev hx, convert, Sem.run_bind, run_underlying hs.u, run_underlying he.u, Result.andThen, Conv.intToInt]
    rfl) k
theorem TL_fieldAddr {s f : Nat} {x : Operand} {b o off : Nat} (hd : Nat.blt d N = true) [hF : FldP P s f off] (hx : ev L x = some (.pointer (some ⟨b, o, none⟩)))
    (k : TL r P Q N D B w0 ((d, .pointer (some ⟨b, o + off, none⟩)) :: L) H ops rest) : TL r P Q N D B w0 L H ops (⟨some d, .fieldAddr s x f, ty, pos, aft, none⟩ :: rest) :=
  TL_val (by simp) hd _ (fun a w hf _ => by
    have : (⟨b, o, none⟩ : Addr).add off = ⟨b, o + off, none⟩ := by unfold Addr.add; split <;> simp_all
    simp [execOp, hf.ev hx, hF.run ⟨b, o, none⟩ w, this]) k

/-! ### Memory: blocks of the call's own -/
theorem cell_of {w : World} {b : Nat} {cs : List Value} {T : TypeId} (h : w.heap[b]? = some (.cells cs.toArray T (0, 0))) (o : Nat) : w.cell? ⟨b, o, none⟩ = cs[o]? := by
  simp [World.cell?, h]
theorem add_plain' (b o i : Nat) : (⟨b, o, none⟩ : Addr).add i = ⟨b, o + i, none⟩ := by unfold Addr.add; split <;> simp_all

theorem TL_box {t : TypeId} {x : Operand} {v : Value} {vs : List Value} (hd : Nat.blt d N = true) (hx : ev L x = some v) (hv : v.cells.toList = vs)
    (k : ∀ b, B ≤ b → TL r P Q N D B w0 ((d, .pointer (some ⟨b, 0, none⟩)) :: L) ((b, .cells vs t) :: H) ops rest) : TL r P Q N D B w0 L H ops (⟨some d, .box t x, ty, pos, aft, none⟩ :: rest) :=
  TL_valw (by simp) hd (fun b : Nat => .pointer (some ⟨b, 0, none⟩)) (fun b => (b, .cells vs t) :: H) (fun b => B ≤ b) (fun a w hf hs => ⟨w.heap.size, w.alloc (Blk.cells vs t).toObj, hs.hB, by
    have : v.cells = vs.toArray := by rw [← hv]
    simp [execOp, hf.ev hx, Instr.box, newVar, newRow, this, Blk.toObj], hs.alloc _⟩) k

theorem TL_alloc {t : TypeId} {sz : Nat} {ag : Bool} {z : List Value} (hd : Nat.blt d N = true) [ht : TyP P t sz ag z]
    (k : ∀ b, B ≤ b → TL r P Q N D B w0 ((d, .pointer (some ⟨b, 0, none⟩)) :: L) ((b, .cells z t) :: H) ops rest) : TL r P Q N D B w0 L H ops (⟨some d, .alloc t, ty, pos, aft, none⟩ :: rest) :=
  TL_valw (by simp) hd (fun b : Nat => .pointer (some ⟨b, 0, none⟩)) (fun b => (b, .cells z t) :: H) (fun b => B ≤ b) (fun a w hf hs => by
    obtain ⟨i, v, hi, _, hz, hc⟩ := ht.info
    exact ⟨w.heap.size, w.alloc (Blk.cells z t).toObj, hs.hB, by
      simp [execOp, Instr.alloc, zeroValue, typeInfo, hi, hz, newVar, newRow, hc, Blk.toObj], hs.alloc _⟩) k

theorem run_load1 {t : TypeId} {sz : Nat} {z : List Value} [ht : TyP P t sz false z] {a : Addr} {v : Value} {w : World} (h : w.cell? a = some v) : (loadVar t a).run P w = .ok v w := by
  simp [loadVar, ht.ag w, load, Sem.run, h]
theorem run_loadn {t : TypeId} {sz : Nat} {z : List Value} [ht : TyP P t sz true z] {b o : Nat} {vs : List Value} {w : World} (hl : vs.length = sz) (h : ∀ j v, vs[j]? = some v → w.cell? ⟨b, o + j, none⟩ = some v) :
    (loadVar t ⟨b, o, none⟩).run P w = .ok (.agg vs.toArray) w := by
  obtain ⟨i, v, hi, hsz, _, _⟩ := ht.info
  have hlc := run_loadCells_list (P := P) (w := w) ⟨b, o, none⟩ vs (fun j v hv => by rw [add_plain']; exact h j v hv)
  simp [loadVar, ht.ag w, sizeOf, typeInfo, hi, hsz, ← hl, hlc]

theorem TL_load1 {t T : TypeId} {sz : Nat} {z : List Value} {x : Operand} {b o : Nat} {cs : List Value} {v : Value} (hd : Nat.blt d N = true) [ht : TyP P t sz false z] (hx : ev L x = some (.pointer (some ⟨b, o, none⟩)))
    (hm : (b, .cells cs T) ∈ H) (hv : takeN 1 (dropN o cs) = some [v]) (k : TL r P Q N D B w0 ((d, v) :: L) H ops rest) : TL r P Q N D B w0 L H ops (⟨some d, .load t x, ty, pos, aft, none⟩ :: rest) :=
  TL_val (by simp) hd _ (fun a w hf hs => by
    have hc := cell_of (hs.holds _ _ hm).2 o
    have h1 := takeN_some hv
    rw [dropN_eq] at h1
    have h2 : cs[o]? = some v := by
      have := congrArg (·[0]?) h1.1
      simpa [List.getElem?_take] using this.symm
    rw [h2] at hc
    simp [execOp, hf.ev hx, Instr.loadAt, Instr.sureAddr, run_load1 hc]) k
theorem TL_loadn {t T : TypeId} {sz : Nat} {z : List Value} {x : Operand} {b o : Nat} {cs vs : List Value} (hd : Nat.blt d N = true) [ht : TyP P t sz true z] (hx : ev L x = some (.pointer (some ⟨b, o, none⟩)))
    (hm : (b, .cells cs T) ∈ H) (hv : takeN sz (dropN o cs) = some vs) (k : TL r P Q N D B w0 ((d, .agg vs.toArray) :: L) H ops rest) : TL r P Q N D B w0 L H ops (⟨some d, .load t x, ty, pos, aft, none⟩ :: rest) :=
  TL_val (by simp) hd _ (fun a w hf hs => by
    have h1 := takeN_some hv
    rw [dropN_eq] at h1
    have hl : vs.length = sz := by rw [h1.1]; simp at h1 ⊢; omega
    have := run_loadn (P := P) (t := t) (b := b) (o := o) (w := w) hl (fun j v hj => by
      rw [cell_of (hs.holds _ _ hm).2]
      rw [h1.1, List.getElem?_take] at hj
      split at hj
      · simpa using hj
      · cases hj)
    simp [execOp, hf.ev hx, Instr.loadAt, Instr.sureAddr, this]) k

theorem run_storeVar {t T : TypeId} {sz : Nat} {ag : Bool} {z : List Value} [ht : TyP P t sz ag z] {b o : Nat} {v : Value} {vs cs cs' : List Value} {w : World} (hv : v.cells.toList = vs) (hone : oneCells vs = true) (hl : vs.length = sz)
    (hb : w.heap[b]? = some (.cells cs.toArray T (0, 0))) (hp : putN o vs cs = some cs') :
    ∃ w', (storeVar t ⟨b, o, none⟩ v).run P w = .ok () w' ∧ w'.os = w.os ∧ w'.tape = w.tape ∧ w'.output = w.output ∧ w'.heap.size = w.heap.size ∧ w'.heap[b]? = some (.cells cs'.toArray T (0, 0)) ∧ ∀ c, c ≠ b → w'.heap[c]? = w.heap[c]? := by
  obtain ⟨i, z', hi, hsz, _, _⟩ := ht.info
  obtain ⟨h1, h2⟩ := putN_some hp
  have hst := run_storeCells_at P b o T vs 0 cs.toArray w hb (by simpa using h2) (oneCells_mem hone)
  have hvc : v.cells.size = sz := by rw [← hl, ← hv]; simp
  refine ⟨w.setRow b (List.take (o + 0) cs.toArray.toList ++ vs ++ List.drop (o + 0 + vs.length) cs.toArray.toList).toArray, ?_, rfl, rfl, rfl, by simp, ?_, ?_⟩
  · rw [← hst]
    simp [storeVar, sizeOf, typeInfo, hi, hsz, hvc, hv]
  · rw [setRow_heap w b cs.toArray _ T _ hb, h1]; simp
  · intro c hc; exact setRow_other w b c _ hc

theorem TL_store {t T : TypeId} {sz : Nat} {ag : Bool} {z : List Value} {x y : Operand} {b o : Nat} {v : Value} {vs cs cs' : List Value} {H' : Hp} [ht : TyP P t sz ag z] (hx : ev L x = some (.pointer (some ⟨b, o, none⟩)))
    (hy : ev L y = some v) (hv : v.cells.toList = vs) (hone : oneCells vs = true) (hl : vs.length = sz) (hu : Upd H b (.cells cs T) (.cells cs' T) H') (hp : putN o vs cs = some cs')
    (k : TL r P Q N D B w0 L H' ops rest) : TL r P Q N D B w0 L H ops (⟨none, .store t x y, ty, pos, aft, none⟩ :: rest) :=
  TL_skipw (by simp) H' (fun a w hf hs => by
    obtain ⟨w', hr, h1, h2, h3, h4, h5, h6⟩ := run_storeVar (P := P) (t := t) (w := w) (o := o) hv hone hl (hs.holds _ _ hu.mem).2 hp
    refine ⟨w', ?_, hs.upd hu h1 h2 h3 h4 h5 h6⟩
    simp only [execOp, hf.ev hx, hf.ev hy, Instr.storeAt, Instr.sureAddr, Sem.run_bind, Sem.run_pure, Result.andThen, hr]) k

end
end Go.Eng
/- The engine, part 3: calls, results, loops, guards, composite values. -/
namespace Go.Eng
open Go Go.RowKit
set_option linter.unusedVariables false
set_option linter.unusedSimpArgs false

/-! ### Entering a function, leaving it -/
def envOf : Nat → List Value → Env
  | _, [] => []
  | i, v :: vs => (i, v) :: envOf (i + 1) vs

theorem lk_envOf : ∀ (vs : List Value) (i k : Nat) (v : Value), lk (envOf i vs) k = some v → i ≤ k ∧ vs[k - i]? = some v := by
  intro vs
  induction vs with
  | nil => intro i k v h; cases h
  | cons x vs ih =>
    intro i k v h
    by_cases e : i = k
    · subst e
      simp only [envOf, lk_cons_same] at h
      simpa using h
    · simp only [envOf] at h
      rw [lk_cons_ne _ _ e] at h
      obtain ⟨h1, h2⟩ := ih _ _ _ h
      refine ⟨by omega, ?_⟩
      rw [show k - i = (k - (i + 1)) + 1 by omega]
      simpa using h2

/-- The ending that a contract gives: it returns, with some x. -/
def RetP (B : Nat) (w0 : World) {X : Type} (val : X → Value) (H' : X → Hp) (Φ : X → Prop) : Ending → World → Prop :=
  fun e w => ∃ x, Φ x ∧ e = .returned (val x) ∧ SH B w0 w (H' x)
/-- .. the one value v, and nothing that was there has turned. -/
def RetV (w0 : World) (v : Value) : Ending → World → Prop := fun e w => e = .returned v ∧ Below w0.heap.size w0 w

section
variable {r : Option Nat} {P : Program} {Q : Exit → Act → World → Prop} {N : Nat} {D : List Deferred} {B : Nat} {w0 : World} {L : Env} {H : Hp} {ops : Array Oper} {rest : List Oper}

theorem enter {f : FuncId} {fn : Func} {c : Code} {args : List Value} {w : World} {R : Ending → World → Prop} (hf : P.funcs[f]? = some fn) (hb : fn.body = some c) (hN : fn.ntmps = N) (hle : Nat.ble args.length N = true)
    (hS : SH B w0 w H) (h : TC none P (bodyPost P fn R) N [] B w0 (envOf 0 args) H c) : Calls P f args.toArray w R := by
  refine (callsIn_wide (n := 0)).1 (callsIn_of_wp hf hb trivial (h _ w ⟨?_, rfl, fun k v hk => ?_⟩ hS))
  · have : args.length ≤ N := by simpa using hle
    simp [hN]; omega
  · have h1 := (lk_envOf args 0 k v hk).2
    simp only [Nat.sub_zero] at h1
    have h2 := (List.getElem?_eq_some_iff.1 h1).1
    rw [Array.getElem?_append_left (by simpa using h2)]
    simpa using h1

def resSem (tmps : Array Value) : ResultVar → Sem Value
  | .tmp t => pure (tmps.getD t undef)
  | .cell x t => do loadVar t (← asAddr (tmps.getD x undef))
theorem results_eq (fn : Func) (tmps : Array Value) : results fn tmps = (do
    let vs ← fn.results.mapM (resSem tmps)
    pure (if h : vs.size = 1 then vs[0] else .tuple vs)) := by
  have : resSem tmps = (fun | .tmp t => pure (tmps.getD t undef) | .cell a t => do loadVar t (← asAddr (tmps.getD a undef))) := by
    funext x; cases x <;> rfl
  rw [this]; rfl
/-- One result. -/
def RV (P : Program) (B : Nat) (w0 : World) (L : Env) (H : Hp) (rv : ResultVar) (v : Value) : Prop :=
  ∀ (a : Act) (w : World) (N : Nat) (D : List Deferred), Fr N D L a → SH B w0 w H → (resSem a.tmps rv).run P w = .ok v w

theorem Fr.getD {N D L a t v} (h : Fr N D L a) (hl : lk L t = some v) : a.tmps.getD t undef = v := by
  have := h.get _ _ hl
  simp [Array.getD_eq_getD_getElem?, this]

theorem RV.tmp {t : Nat} {v : Value} (h : lk L t = some v) : RV P B w0 L H (.tmp t) v := fun a w N D hf _ => by
  rw [resSem, hf.getD h]; rfl
theorem RV.cell1 {t T x : Nat} {sz : Nat} {z : List Value} {b o : Nat} {cs : List Value} {v : Value} [ht : TyP P t sz false z] (hx : lk L x = some (.pointer (some ⟨b, o, none⟩)))
    (hm : (b, .cells cs T) ∈ H) (hv : takeN 1 (dropN o cs) = some [v]) : RV P B w0 L H (.cell x t) v := fun a w N D hf hs => by
  have hc := cell_of (hs.holds _ _ hm).2 o
  have h1 := takeN_some hv
  rw [dropN_eq] at h1
  have h2 : cs[o]? = some v := by
    have := congrArg (·[0]?) h1.1
    simpa [List.getElem?_take] using this.symm
  rw [h2] at hc
  rw [resSem, hf.getD hx]
  simp [asAddr, run_load1 hc]
theorem RV.celln {t T x : Nat} {sz : Nat} {z : List Value} {b o : Nat} {cs vs : List Value} [ht : TyP P t sz true z] (hx : lk L x = some (.pointer (some ⟨b, o, none⟩)))
    (hm : (b, .cells cs T) ∈ H) (hv : takeN sz (dropN o cs) = some vs) : RV P B w0 L H (.cell x t) (.agg vs.toArray) := fun a w N D hf hs => by
  have h1 := takeN_some hv
  rw [dropN_eq] at h1
  have hl : vs.length = sz := by rw [h1.1]; simp at h1 ⊢; omega
  have := run_loadn (P := P) (t := t) (b := b) (o := o) (w := w) hl (fun j v hj => by
    rw [cell_of (hs.holds _ _ hm).2]
    rw [h1.1, List.getElem?_take] at hj
    split at hj
    · simpa using hj
    · cases hj)
  rw [resSem, hf.getD hx]
  simp [asAddr, this]

theorem TQ_ret0 {fn : Func} {R : Ending → World → Prop} (hr : fn.results = #[]) (hR : ∀ w, SH B w0 w H → R (.returned (.tuple #[])) w) : TQ (bodyPost P fn R) N [] B w0 L H .ret :=
  fun a w hf hs => ⟨hf.defers, _, by simp [results, hr], hR w hs⟩
theorem TQ_end0 {fn : Func} {R : Ending → World → Prop} (hr : fn.results = #[]) (hR : ∀ w, SH B w0 w H → R (.returned (.tuple #[])) w) : TQ (bodyPost P fn R) N [] B w0 L H .normal :=
  fun a w hf hs => ⟨hf.defers, _, by simp [results, hr], hR w hs⟩
theorem TQ_ret1 {fn : Func} {R : Ending → World → Prop} {r1 : ResultVar} {v1 : Value} (hr : fn.results = #[r1]) (h1 : RV P B w0 L H r1 v1) (hR : ∀ w, SH B w0 w H → R (.returned v1) w) :
    TQ (bodyPost P fn R) N [] B w0 L H .ret := fun a w hf hs => by
  refine ⟨hf.defers, _, ?_, hR w hs⟩
  have e1 := h1 a w _ _ hf hs
  simp [results_eq, hr, e1]
theorem TQ_ret2 {fn : Func} {R : Ending → World → Prop} {r1 r2 : ResultVar} {v1 v2 : Value} (hr : fn.results = #[r1, r2]) (h1 : RV P B w0 L H r1 v1) (h2 : RV P B w0 L H r2 v2)
    (hR : ∀ w, SH B w0 w H → R (.returned (.tuple #[v1, v2])) w) : TQ (bodyPost P fn R) N [] B w0 L H .ret := fun a w hf hs => by
  refine ⟨hf.defers, _, ?_, hR w hs⟩
  have e1 := h1 a w _ _ hf hs
  have e2 := h2 a w _ _ hf hs
  simp [results_eq, hr, e1, e2]
theorem TQ_ret3 {fn : Func} {R : Ending → World → Prop} {r1 r2 r3 : ResultVar} {v1 v2 v3 : Value} (hr : fn.results = #[r1, r2, r3]) (h1 : RV P B w0 L H r1 v1) (h2 : RV P B w0 L H r2 v2) (h3 : RV P B w0 L H r3 v3)
    (hR : ∀ w, SH B w0 w H → R (.returned (.tuple #[v1, v2, v3])) w) : TQ (bodyPost P fn R) N [] B w0 L H .ret := fun a w hf hs => by
  refine ⟨hf.defers, _, ?_, hR w hs⟩
  have e1 := h1 a w _ _ hf hs
  have e2 := h2 a w _ _ hf hs
  have e3 := h3 a w _ _ hf hs
  simp [results_eq, hr, e1, e2, e3]

/-! ### Calls -/
/-- A call of function k enters its body. -/
class EntP (P : Program) (k : FuncId) : Prop where
  run : ∀ args w, (callFunc k args).run P w = .ok (.enter k args) w
theorem EntP.mk' {P : Program} {f : FuncId} {fn : Func} {c : Code} (hf : P.funcs[f]? = some fn) (hname : (fn.name == "runtime.NumGoroutine") = false) (hb : fn.body = some c) : EntP P f :=
  ⟨Go.Proofs.enters_of hf hname hb⟩
def evL (L : Env) : List Operand → Option (List Value)
  | [] => some []
  | x :: xs => match ev L x with
    | some v => match evL L xs with
      | some vs => some (v :: vs)
      | none => none
    | none => none
theorem evL_spec {a : Act} (hf : Fr N D L a) : ∀ {xs : List Operand} {vs : List Value}, evL L xs = some vs → xs.map a.eval = vs := by
  intro xs
  induction xs with
  | nil => intro vs h; simp [evL] at h; simp [h]
  | cons x xs ih =>
    intro vs h
    simp only [evL] at h
    split at h
    · rename_i v hv
      split at h
      · rename_i vs' hvs
        cases h
        simp [hf.ev hv, ih hvs]
      · cases h
    · cases h

def putE (L : Env) : Option Nat → Value → Env
  | none, _ => L
  | some d, v => (d, v) :: L
def okD (N : Nat) : Option Nat → Bool
  | none => true
  | some d => Nat.blt d N
theorem Fr.putE {a : Act} (h : Fr N D L a) {d : Option Nat} (hd : okD N d = true) (v : Value) : Fr N D (putE L d v) (a.put d v) := by
  cases d with
  | none => exact h
  | some d => exact h.put hd v

variable {d : Option Nat} {ty : TypeId} {pos : String} {aft : Array Edge}

theorem callsIn_of_calls {f : FuncId} {args : Array Value} {w : World} {R : Ending → World → Prop} (h : Calls P f args w R) : CallsIn (FW r) 0 P f args w R :=
  ((callsIn_wide (n := 0)).2 h : CallsIn Fence.wide 0 P f args w R)

/-- The general rule of a call: whatever value is called, by its run. -/
theorem TL_callR {c : Call} {k : FuncId} {av : Array Value} (hrun : ∀ a w, Fr N D L a → SH B w0 w H → (do let d ← resolve a.eval c ty; invoke d.target d.args : Sem Next).run P w = .ok (.enter k av) w) (hd : okD N d = true)
    {X : Type} (val : X → Value) (H' : X → Hp) (Φ : X → Prop) (hc : ∀ w, SH B w0 w H → Calls P k av w (RetP B w0 val H' Φ))
    (kk : ∀ x, Φ x → TL r P Q N D B w0 (putE L d (val x)) (H' x) ops rest) : TL r P Q N D B w0 L H ops (⟨d, .call c, ty, pos, aft, none⟩ :: rest) :=
  TL_run rfl (by simp) fun a w hf hs => by
    have h1 := hrun a w hf hs
    simp only [execOp]
    rw [h1]
    refine ⟨fun h => by simp [FW] at h, (callsIn_of_calls (hc w hs)).mono ?_⟩
    rintro e w' ⟨x, hx, rfl, hs'⟩
    exact kk x hx _ _ (hf.putE hd _) hs'

theorem run_call {a : Act} {callee : Operand} {args : List Operand} {at_ : Array TypeId} {k : FuncId} {vs cl : List Value} (hf : Fr N D L a) (hx : ev L callee = some (.func (.func k) #[] cl.toArray)) (ha : evL L args = some vs)
    [hent : EntP P k] (w : World) : (do let d ← resolve a.eval { callee := .value callee, args := args.toArray, argTypes := at_ } ty; invoke d.target d.args : Sem Next).run P w = .ok (.enter k (vs ++ cl).toArray) w := by
  have := hent.run ((vs ++ cl).toArray) w
  simp only [resolve, hf.ev hx, Deferred.ofValue, List.map_toArray, evL_spec hf ha, Sem.run_bind, Sem.run_pure, Result.andThen, invoke]
  simpa using this

theorem TL_call {callee : Operand} {args : List Operand} {at_ : Array TypeId} {k : FuncId} {vs cl : List Value} (hx : ev L callee = some (.func (.func k) #[] cl.toArray)) (ha : evL L args = some vs) [hent : EntP P k] (hd : okD N d = true)
    {X : Type} (val : X → Value) (H' : X → Hp) (Φ : X → Prop) (hc : ∀ w, SH B w0 w H → Calls P k (vs ++ cl).toArray w (RetP B w0 val H' Φ))
    (kk : ∀ x, Φ x → TL r P Q N D B w0 (putE L d (val x)) (H' x) ops rest) :
    TL r P Q N D B w0 L H ops (⟨d, .call { callee := .value callee, args := args.toArray, argTypes := at_ }, ty, pos, aft, none⟩ :: rest) :=
  TL_callR (fun _ w hf _ => run_call hf hx ha w) hd val H' Φ hc kk

/-- .. by a contract that speaks of the callee's own new blocks. -/
theorem TL_callN {callee : Operand} {args : List Operand} {at_ : Array TypeId} {k : FuncId} {vs cl : List Value} (hx : ev L callee = some (.func (.func k) #[] cl.toArray)) (ha : evL L args = some vs) [hent : EntP P k] (hd : okD N d = true)
    {X : Type} {val : X → Value} {hp : X → Hp} {Φ : X → Prop} (hc : ∀ w, SH B w0 w H → Calls P k (vs ++ cl).toArray w (RetP w.heap.size w val hp Φ))
    (kk : ∀ x, Φ x → TL r P Q N D B w0 (putE L d (val x)) (hp x ++ H) ops rest) :
    TL r P Q N D B w0 L H ops (⟨d, .call { callee := .value callee, args := args.toArray, argTypes := at_ }, ty, pos, aft, none⟩ :: rest) :=
  TL_call hx ha hd val (fun x => hp x ++ H) Φ (fun w hs => (hc w hs).mono fun _ _ ⟨x, hx, he, hs'⟩ => ⟨x, hx, he, hs.join hs'⟩) kk

/-- .. by a contract that names the value, and keeps all that was there. -/
theorem TL_callV {callee : Operand} {args : List Operand} {at_ : Array TypeId} {k : FuncId} {vs cl : List Value} {v : Value} (hx : ev L callee = some (.func (.func k) #[] cl.toArray)) (ha : evL L args = some vs) [hent : EntP P k] (hd : okD N d = true)
    (hc : ∀ w, SH B w0 w H → Calls P k (vs ++ cl).toArray w (RetV w v))
    (kk : TL r P Q N D B w0 (putE L d v) H ops rest) :
    TL r P Q N D B w0 L H ops (⟨d, .call { callee := .value callee, args := args.toArray, argTypes := at_ }, ty, pos, aft, none⟩ :: rest) :=
  TL_call hx ha hd (fun _ : Unit => v) (fun _ => H) (fun _ => True) (fun w hs => (hc w hs).mono fun _ _ ⟨he, hb⟩ => ⟨(), trivial, he, hs.ext hb⟩) (fun _ _ => kk)

/-! ### Loops -/
theorem least_nat {p : Nat → Prop} (h : ∃ n, p n) : ∃ n, p n ∧ ∀ m, p m → n ≤ m := by
  obtain ⟨n, hn⟩ := h
  induction n using Nat.strongRecOn with
  | _ n ih =>
    by_cases hx : ∃ m, m < n ∧ p m
    · obtain ⟨m, hm, hp⟩ := hx; exact ih m hm hp
    · exact ⟨n, hn, fun m hm => Nat.le_of_not_lt fun hlt => hx ⟨m, hlt, hm⟩⟩
theorem TC_loop {c : Code} {σ : Type} (p : σ → Prop) (Lx : σ → Env) (Hx : σ → Hp) (μ : σ → Nat) (x0 : σ) (h0 : p x0) (hL : Sub (Lx x0) L) (hH : ∀ w, SH B w0 w H → SH B w0 w (Hx x0))
    (round : ∀ x, p x → TC r P (Exit.then (fun a w => ∃ y, p y ∧ μ y < μ x ∧ Fr N D (Lx y) a ∧ SH B w0 w (Hx y)) Q) N D B w0 (Lx x) (Hx x) c) : TC r P Q N D B w0 L H (.loop c) := by
  intro a w hf hs
  classical
  let I : Act → World → σ → Prop := fun a w x => p x ∧ Fr N D (Lx x) a ∧ SH B w0 w (Hx x)
  let m : Act → World → Nat := fun a w => if h : ∃ n, ∃ x, I a w x ∧ μ x = n then Classical.choose (least_nat h) else 0
  refine wpIn_loop (fun a w => ∃ x, I a w x) m ⟨x0, h0, hf.sub hL, hH w hs⟩ ?_
  rintro a w hI
  have hex : ∃ n, ∃ x, I a w x ∧ μ x = n := let ⟨x, hx⟩ := hI; ⟨μ x, x, hx, rfl⟩
  obtain ⟨x, ⟨hp, hfx, hsx⟩, hmu⟩ := (Classical.choose_spec (least_nat hex)).1
  have hm : m a w = μ x := by simp only [m, dif_pos hex]; exact hmu.symm
  refine wpIn_mono (round x hp _ _ hfx hsx) fun e a' w' hq => ?_
  cases e with
  | normal =>
    obtain ⟨y, hy, hlt, hfy, hsy⟩ := hq
    have hex' : ∃ n, ∃ x, I a' w' x ∧ μ x = n := ⟨μ y, y, ⟨hy, hfy, hsy⟩, rfl⟩
    refine ⟨⟨y, hy, hfy, hsy⟩, ?_⟩
    have : m a' w' ≤ μ y := by simp only [m, dif_pos hex']; exact (Classical.choose_spec (least_nat hex')).2 _ ⟨y, ⟨hy, hfy, hsy⟩, rfl⟩
    show m a' w' < m a w
    omega
  | _ => exact hq

/-- A round's end. -/
theorem TQ_round {σ : Type} {p : σ → Prop} {Lx : σ → Env} {Hx : σ → Hp} {μ : σ → Nat} {n : Nat} (y : σ) (hy : p y) (hlt : μ y < n) (hL : Sub (Lx y) L) (hH : ∀ w, SH B w0 w H → SH B w0 w (Hx y)) :
    TQ (Exit.then (fun a w => ∃ y, p y ∧ μ y < n ∧ Fr N D (Lx y) a ∧ SH B w0 w (Hx y)) Q) N D B w0 L H .normal :=
  fun a w hf hs => ⟨y, hy, hlt, hf.sub hL, hH w hs⟩

theorem TQ_mid {σ : Type} {p : σ → Prop} {Lx : σ → Env} {Hx : σ → Hp} (s : σ) (hs : p s) (hL : Sub (Lx s) L) (hH : ∀ w, SH B w0 w H → SH B w0 w (Hx s)) :
    TQ (Exit.then (fun a w => ∃ s, p s ∧ Fr N D (Lx s) a ∧ SH B w0 w (Hx s)) Q) N D B w0 L H .normal :=
  fun a w hf hss => ⟨s, hs, hf.sub hL, hH w hss⟩

/-! ### Splitting on a guard -/
theorem TL_gsplit_dec {d' : Option Nat} {op : Op} {j dj : Nat} {b : Bool} {p : Prop} {_ : Decidable p} (_hj : ((ops[j]?).bind (·.dst)) = some dj) (hl : lk L dj = some (.bool (decide p)))
    (h1 : p → TL r P Q N D B w0 ((dj, .bool true) :: L) H ops (⟨d', op, ty, pos, aft, some (j, b)⟩ :: rest)) (h2 : ¬ p → TL r P Q N D B w0 ((dj, .bool false) :: L) H ops (⟨d', op, ty, pos, aft, some (j, b)⟩ :: rest)) :
    TL r P Q N D B w0 L H ops (⟨d', op, ty, pos, aft, some (j, b)⟩ :: rest) := by
  by_cases hp : p
  · exact (h1 hp).weaken (Sub.cons (by rw [hl]; simp [hp]) (Sub.refl _)) (fun _ h => h)
  · exact (h2 hp).weaken (Sub.cons (by rw [hl]; simp [hp]) (Sub.refl _)) (fun _ h => h)
end

end Go.Eng
/- The engine, part 4: composite values, slices. -/
namespace Go.Eng
open Go Go.RowKit
set_option linter.unusedVariables false
set_option linter.unusedSimpArgs false

/-! ### Struct literals, slice literals -/
def plL (P : Program) (fs : List Field) : Option (List (Nat × Nat)) := fs.mapM fun f => (P.info? f.type).map fun i => (f.offset, i.size)
class StP (P : Program) (t : TypeId) (z : outParam (List Value)) (fo : outParam (List (Nat × Nat))) : Prop where
  zero : ∃ i v, P.info? t = some i ∧ i.zero = some v ∧ v.cells = z.toArray
  fields : ∃ fs : Array Field, P.underlying t = some (.struct fs) ∧ plL P fs.toList = some fo
theorem StP.mk' {P : Program} {t : TypeId} {sz : Nat} {ag : Bool} {z : List Value} {fs : Array Field} {fo : List (Nat × Nat)} (h : TyP P t sz ag z) (hu : P.underlying t = some (.struct fs)) (hp : plL P fs.toList = some fo) : StP P t z fo :=
  ⟨let ⟨i, v, h1, _, h3, h4⟩ := h.info; ⟨i, v, h1, h3, h4⟩, fs, hu, hp⟩
/-- An array type: its zero cells, its elements' places. -/
class ArP (P : Program) (t : TypeId) (z : outParam (List Value)) (n sz : outParam Nat) : Prop where
  zero : ∃ i v, P.info? t = some i ∧ i.zero = some v ∧ v.cells = z.toArray
  elem : ∃ e i, P.underlying t = some (.array n e) ∧ P.info? e = some i ∧ i.size = sz
theorem ArP.mk' {P : Program} {t e : TypeId} {sz sz' n : Nat} {ag ag' : Bool} {z z' : List Value} (h : TyP P t sz ag z) (hu : P.underlying t = some (.array n e)) (he : TyP P e sz' ag' z') : ArP P t z n sz' :=
  ⟨let ⟨i, v, h1, _, h3, h4⟩ := h.info; ⟨i, v, h1, h3, h4⟩, let ⟨i, _, h1, h2, _, _⟩ := he.info; ⟨e, i, hu, h1, h2⟩⟩

def fillP (fo : Nat → Option (Nat × Nat)) : List Value → List (Nat × Value) → Option (List Value)
  | z, [] => some z
  | z, p :: ps => match fo p.1 with
    | none => none
    | some q => match Nat.beq p.2.cells.size q.2 with
      | true => match putN q.1 p.2.cells.toList z with
        | some z' => fillP fo z' ps
        | none => none
      | false => none

theorem foldl_set (off : Nat) : ∀ (vs : List Value) (k : Nat) (z : List Value), off + k + vs.length ≤ z.length →
    ((vs.zipIdx k).foldl (fun (cs : Array Value) (p : Value × Nat) => cs.setIfInBounds (off + p.2) p.1) z.toArray) = (z.take (off + k) ++ vs ++ z.drop (off + k + vs.length)).toArray := by
  intro vs
  induction vs with
  | nil => intro k z _; simp
  | cons v vs ih =>
    intro k z hz
    simp only [List.length_cons] at hz
    simp only [List.zipIdx_cons, List.foldl_cons, List.setIfInBounds_toArray]
    rw [ih (k + 1) (z.set (off + k) v) (by simp; omega)]
    congr 1
    apply List.ext_getElem?
    intro i
    have hlen : (List.take (off + (k + 1)) (z.set (off + k) v)).length = off + k + 1 := by simp; omega
    have hlen2 : (List.take (off + k) z).length = off + k := by simp; omega
    rcases Nat.lt_or_ge i (off + k) with h1 | h1
    · rw [List.append_assoc, List.append_assoc, List.getElem?_append_left (by omega), List.getElem?_append_left (by omega)]
      simp [List.getElem?_take, show i < off + (k + 1) by omega, h1, List.getElem?_set, show ¬ off + k = i by omega]
    · rcases Nat.eq_or_lt_of_le h1 with h2 | h2
      · subst h2
        rw [List.append_assoc, List.append_assoc, List.getElem?_append_left (by omega), List.getElem?_append_right (by omega), hlen2]
        simp [List.getElem?_take, List.getElem?_set, show off + k < z.length by omega, show off + k < off + (k + 1) by omega]
      · have e1 : ((List.take (off + (k + 1)) (z.set (off + k) v)) ++ vs ++ List.drop (off + (k + 1) + vs.length) (z.set (off + k) v))[i]? = (vs ++ List.drop (off + (k + 1) + vs.length) (z.set (off + k) v))[i - (off + k + 1)]? := by
          rw [List.append_assoc, List.getElem?_append_right (by rw [hlen]; omega), hlen]
        have e2 : (List.take (off + k) z ++ v :: vs ++ List.drop (off + k + (v :: vs).length) z)[i]? = (vs ++ List.drop (off + k + (v :: vs).length) z)[i - (off + k + 1)]? := by
          rw [List.append_assoc, List.getElem?_append_right (by rw [hlen2]; omega), hlen2, show i - (off + k) = (i - (off + k + 1)) + 1 by omega, List.cons_append, List.getElem?_cons_succ]
        rw [e1, e2]
        rcases Nat.lt_or_ge (i - (off + k + 1)) vs.length with h3 | h3
        · rw [List.getElem?_append_left h3, List.getElem?_append_left h3]
        · rw [List.getElem?_append_right h3, List.getElem?_append_right h3]
          simp only [List.getElem?_drop, List.length_cons]
          rw [List.getElem?_set_ne (by omega)]
          congr 1; omega

theorem fill_eq {place : Nat → Option (Nat × Nat)} : ∀ {ps : List (Nat × Value)} {z k : List Value}, fillP place z ps = some k → Instr.fill place z.toArray ps = some k.toArray := by
  intro ps
  induction ps with
  | nil => intro z k h; simp [fillP] at h; simp [Instr.fill, h]
  | cons p ps ih =>
    obtain ⟨i, v⟩ := p
    intro z k h
    simp only [fillP] at h
    split at h
    · cases h
    · rename_i q hq
      split at h
      · rename_i hb
        split at h
        · rename_i z' hz'
          have hsz : v.cells.size = q.2 := by simpa using hb
          obtain ⟨h1, h2⟩ := putN_some hz'
          have hl : v.cells.toList.length = v.cells.size := by simp
          simp only [Instr.fill, hq]
          rw [if_neg (by simp [hsz]; simp at h2; omega)]
          rw [← ih h]
          congr 1
          have := foldl_set q.1 v.cells.toList 0 z (by simpa using h2)
          simp only [Nat.add_zero] at this
          rw [h1, ← this, ← Array.foldl_toList]
          congr 1
          simp [Array.toList_zipIdx]
        · cases h
      · cases h

def evP (L : Env) : List (Nat × Operand) → Option (List (Nat × Value))
  | [] => some []
  | p :: ps => match ev L p.2 with
    | some v => match evP L ps with
      | some vs => some ((p.1, v) :: vs)
      | none => none
    | none => none

section
variable {r : Option Nat} {P : Program} {Q : Exit → Act → World → Prop} {N : Nat} {D : List Deferred} {B : Nat} {w0 : World} {L : Env} {H : Hp} {ops : Array Oper} {rest : List Oper}
variable {d : Nat} {ty : TypeId} {pos : String} {aft : Array Edge}

theorem evP_spec {a : Act} (hf : Fr N D L a) : ∀ {ps : List (Nat × Operand)} {vs : List (Nat × Value)}, evP L ps = some vs → ps.map (fun p => (p.1, a.eval p.2)) = vs := by
  intro ps
  induction ps with
  | nil => intro vs h; simp [evP] at h; simp [h]
  | cons p ps ih =>
    intro vs h
    simp only [evP] at h
    split at h
    · rename_i v hv
      split at h
      · rename_i vs' hvs
        cases h
        simp [hf.ev hv, ih hvs]
      · cases h
    · cases h

theorem run_places {fs : List Field} {fo : List (Nat × Nat)} (h : plL P fs = some fo) (w : World) :
    (fs.toArray.mapM (fun f => (do pure (f.offset, ← sizeOf f.type) : Sem (Nat × Nat)))).run P w = .ok fo.toArray w := by
  rw [List.mapM_toArray]
  have key : ∀ (fs : List Field) (fo : List (Nat × Nat)), plL P fs = some fo → (fs.mapM (fun f => (do pure (f.offset, ← sizeOf f.type) : Sem (Nat × Nat)))).run P w = .ok fo w := by
    intro fs
    induction fs with
    | nil => intro fo h; simp [plL] at h; subst h; rfl
    | cons f fs ih =>
      intro fo h
      simp only [plL, List.mapM_cons, Option.pure_def, Option.bind_eq_bind, Option.bind_eq_some_iff] at h
      obtain ⟨q, h1, fo', h2, h3⟩ := h
      cases h3
      obtain ⟨i, hi, hq⟩ := Option.map_eq_some_iff.1 h1
      have := ih fo' h2
      simp [List.mapM_cons, sizeOf, typeInfo, hi, this, hq]
      simp [sizeOf, typeInfo] at this
      simp [this, hq]
  have := key fs fo h
  rw [Sem.run_map, this]
  rfl

theorem TL_build {t : TypeId} {parts : List (Nat × Operand)} {z vs : List Value} {ps : List (Nat × Value)} {fo : List (Nat × Nat)} (hd : Nat.blt d N = true) [hS : StP P t z fo] (hp : evP L parts = some ps)
    (hv : fillP (fun i => fo[i]?) z ps = some vs) (k : TL r P Q N D B w0 ((d, .agg vs.toArray) :: L) H ops rest) : TL r P Q N D B w0 L H ops (⟨some d, .build t parts.toArray, ty, pos, aft, none⟩ :: rest) :=
  TL_val (by simp) hd _ (fun a w hf _ => by
    obtain ⟨i, v, hi, hz, hc⟩ := hS.zero
    obtain ⟨fs, hu, hpl⟩ := hS.fields
    have h1 := run_places hpl w
    have h2 := evP_spec hf hp
    have h3 := fill_eq hv
    have e1 : (List.map (fun (x : Nat × Operand) => (x.1, a.eval x.2)) parts) = ps := h2
    simp only [Array.toArray_toList] at h1
    have h4 : (Array.mapM (fun (f : Field) => Prod.mk f.offset <$> sizeOf f.type) fs).run P w = .ok fo.toArray w := by
      rw [← h1]; rfl
    simp [execOp, Instr.build, zeroValue, typeInfo, hi, hz, hc, run_underlying hu, h4, e1, h3]) k
theorem TL_buildA {t : TypeId} {parts : List (Nat × Operand)} {z vs : List Value} {ps : List (Nat × Value)} {n sz : Nat} (hd : Nat.blt d N = true) [hS : ArP P t z n sz] (hp : evP L parts = some ps)
    (hv : fillP (fun i => some (i * sz, sz)) z ps = some vs) (k : TL r P Q N D B w0 ((d, .agg vs.toArray) :: L) H ops rest) : TL r P Q N D B w0 L H ops (⟨some d, .build t parts.toArray, ty, pos, aft, none⟩ :: rest) :=
  TL_val (by simp) hd _ (fun a w hf _ => by
    obtain ⟨i, v, hi, hz, hc⟩ := hS.zero
    obtain ⟨e, j, hu, hj, hsz⟩ := hS.elem
    have e1 := evP_spec hf hp
    have h3 := fill_eq hv
    simp [execOp, Instr.build, zeroValue, sizeOf, typeInfo, hi, hz, hc, run_underlying hu, hj, hsz, e1, h3]) k

/-- n times the cells z. -/
def repN : Nat → List Value → List Value
  | 0, _ => []
  | n + 1, z => z ++ repN n z
theorem repN_length (n : Nat) (z : List Value) : (repN n z).length = n * z.length := by
  induction n with
  | zero => simp [repN]
  | succ n ih => simp [repN, ih, Nat.add_mul, Nat.add_comm]
theorem repN_get (n : Nat) (z : List Value) (i : Nat) (hi : i < n * z.length) : (repN n z)[i]? = z[i % z.length]? := by
  induction n generalizing i with
  | zero => simp at hi
  | succ n ih =>
    simp only [repN]
    rcases Nat.lt_or_ge i z.length with h | h
    · rw [List.getElem?_append_left h, Nat.mod_eq_of_lt h]
    · rw [List.getElem?_append_right h, ih _ (by rw [Nat.add_mul] at hi; omega)]
      congr 1
      rw [Nat.mod_eq_sub_mod h]
theorem repN_range (n : Nat) (z : List Value) : ((Array.range (n * z.length)).map (fun i => z.toArray[i % z.toArray.size]!)) = (repN n z).toArray := by
  apply Array.ext
  · simp [repN_length]
  · intro i h1 h2
    simp only [Array.size_map, Array.size_range] at h1
    simp only [Array.getElem_map, Array.getElem_range, List.size_toArray, List.getElem_toArray]
    have := repN_get n z i h1
    have hz : i % z.length < z.length := Nat.mod_lt _ (by
      rcases Nat.eq_zero_or_pos z.length with h | h
      · rw [h] at h1; simp at h1
      · exact h)
    rw [List.getElem?_eq_getElem (by rw [repN_length]; exact h1), List.getElem?_eq_getElem hz] at this
    have := Option.some.inj this
    rw [this]
    simp [hz]

theorem TL_buildSlice {t e : TypeId} {len : Nat} {parts : List (Nat × Operand)} {sz : Nat} {ag : Bool} {z vs : List Value} {ps : List (Nat × Value)} (hd : Nat.blt d N = true) [hu : SlcP P t e] [he : TyP P e sz ag z] (hzl : z.length = sz)
    (hp : evP L parts = some ps) (hlen : Nat.ble (len * sz) 16777216 = true) (hv : fillP (fun i => some (i * sz, sz)) (repN len z) ps = some vs)
    (k : ∀ b, B ≤ b → TL r P Q N D B w0 ((d, .slice (some ⟨b, 0, none⟩) len len) :: L) ((b, .cells vs e) :: H) ops rest) : TL r P Q N D B w0 L H ops (⟨some d, .buildSlice t len parts.toArray, ty, pos, aft, none⟩ :: rest) :=
  TL_valw (by simp) hd (fun b : Nat => .slice (some ⟨b, 0, none⟩) len len) (fun b => (b, .cells vs e) :: H) (fun b => B ≤ b) (fun a w hf hs => ⟨w.heap.size, w.alloc (Blk.cells vs e).toObj, hs.hB, by
    obtain ⟨i, v, hi, hsz, hz, hc⟩ := he.info
    have e1 := evP_spec hf hp
    have h3 := fill_eq hv
    have hle : ¬ (16777216 < len * sz) := by simp at hlen; omega
    have hr := repN_range len z
    rw [hzl] at hr
    by_cases h0 : len * sz = 0
    · have e0 : repN len z = [] := List.eq_nil_of_length_eq_zero (by rw [repN_length, hzl, h0])
      rw [e0] at h3
      have h3' : Instr.fill (fun i => some (i * sz, sz)) (Array.map (fun _ => default) (Array.range 0)) ps = some vs.toArray := by
        have er : Array.range 0 = #[] := Array.eq_empty_of_size_eq_zero (by simp)
        rw [er, Array.map_empty]; exact h3
      simp [execOp, Instr.buildSlice, run_underlying hu.u, sizeOf, typeInfo, hi, hsz, h0, e1, h3', newRow, Blk.toObj]
    · simp only [execOp, Instr.buildSlice, Sem.run_bind, run_underlying hu.u, Result.andThen, sizeOf, typeInfo, program, Sem.run, hi, hsz, Sem.run_pure]
      simp only [List.map_toArray]
      rw [show (2 : Nat) ^ 24 = 16777216 from rfl, if_neg (by simpa using hle)]
      simp only [h0, if_false, zeroValue, typeInfo, program, Sem.run_pure, Sem.run_bind, Sem.run, hi, hz, hc, Result.andThen, hr, e1, h3, newRow, run_newObj_alloc, Blk.toObj], hs.alloc _⟩) k
end
end Go.Eng
/- The engine, part 5: slices that are read, rows that grow by append. -/
namespace Go.Eng
open Go Go.RowKit

/-- The slot f of element i of the slice at ao, elements of k cells each. -/
def elA (ao : Option Addr) (k i f : Nat) : Addr := match ao with
  | some a => ⟨a.block, a.off + (i * k + f), none⟩
  | none => ⟨0, 0, none⟩

/-- In world w the slice (ao, its length that of l) reads as l: element i's cells are 'enc l[i]', k of them. -/
structure Sl {α : Type} (w : World) (k : Nat) (enc : α → List Value) (ao : Option Addr) (l : List α) : Prop where
  enc_len : ∀ x ∈ l, (enc x).length = k
  some_ : l ≠ [] → ∃ b o, ao = some ⟨b, o, none⟩
  cell : ∀ i x, l[i]? = some x → ∀ f v, (enc x)[f]? = some v → w.cell? (elA ao k i f) = some v

theorem Sl.nil {α : Type} (w : World) (k : Nat) (enc : α → List Value) (ao : Option Addr) : Sl w k enc ao ([] : List α) :=
  ⟨fun x hx => (by cases hx), fun h => absurd rfl h, fun i x h => (by simp at h)⟩

theorem Sl.mono {α : Type} {w w' : World} {k : Nat} {enc : α → List Value} {ao : Option Addr} {l : List α} (h : Sl w k enc ao l) (hb : Below w.heap.size w w') : Sl w' k enc ao l :=
  ⟨h.enc_len, h.some_, fun i x hx f v hv => by
    have := h.cell i x hx f v hv
    rw [hb.cell (World.block_lt_of_cell? w _ this)]
    exact this⟩

theorem Sl.take {α : Type} {w : World} {k : Nat} {enc : α → List Value} {ao : Option Addr} {l : List α} (h : Sl w k enc ao l) (n : Nat) : Sl w k enc ao (l.take n) :=
  ⟨fun x hx => h.enc_len x (List.mem_of_mem_take hx), fun hn => h.some_ (fun e => hn (by simp [e])), fun i x hx => h.cell i x (by
    rw [List.getElem?_take] at hx
    split at hx
    · exact hx
    · cases hx)⟩

/-- What the heap of the call's entry said of slices holds on. -/
theorem SH.sl {α : Type} {w0 w : World} {H : Hp} {k : Nat} {enc : α → List Value} {ao : Option Addr} {l : List α} (h : SH w0.heap.size w0 w H) (hs : Sl w0 k enc ao l) : Sl w k enc ao l := hs.mono h.below

/-- A slice over a block of the call's own. -/
theorem Sl.of_blk {α : Type} {B : Nat} {w0 w : World} {H : Hp} {k : Nat} {enc : α → List Value} {b : Nat} {cs : List Value} {T : TypeId} {l : List α} (h : SH B w0 w H) (hm : (b, .cells cs T) ∈ H)
    (hk : ∀ x ∈ l, (enc x).length = k) (hc : ∃ more, cs = l.flatMap enc ++ more) : Sl w k enc (some ⟨b, 0, none⟩) l := by
  refine ⟨hk, fun _ => ⟨b, 0, rfl⟩, fun i x hx f v hv => ?_⟩
  obtain ⟨more, rfl⟩ := hc
  show w.cell? ⟨b, 0 + (i * k + f), none⟩ = _
  rw [cell_of (h.holds _ _ hm).2, Nat.zero_add]
  have key : ∀ (l : List α) (i : Nat) (more : List Value), (∀ x ∈ l, (enc x).length = k) → l[i]? = some x → (l.flatMap enc ++ more)[i * k + f]? = some v := by
    intro l
    induction l with
    | nil => intro i more _ h; simp at h
    | cons y l ih =>
      intro i more hk h
      have hy := hk y List.mem_cons_self
      cases i with
      | zero =>
        simp at h; subst h
        rw [Nat.zero_mul, Nat.zero_add, List.flatMap_cons, List.append_assoc, List.getElem?_append_left (List.getElem?_eq_some_iff.1 hv).1]
        exact hv
      | succ i =>
        rw [List.flatMap_cons, List.append_assoc, List.getElem?_append_right (by rw [hy, Nat.succ_mul]; omega), hy, show (i + 1) * k + f - k = i * k + f by rw [Nat.succ_mul]; omega]
        exact ih i more (fun x hx => hk x (List.mem_cons_of_mem _ hx)) (by simpa using h)
  exact key l i more hk hx

section
variable {r : Option Nat} {P : Program} {Q : Exit → Act → World → Prop} {N : Nat} {D : List Deferred} {B : Nat} {w0 : World} {L : Env} {H : Hp} {ops : Array Oper} {rest : List Oper}
variable {d : Nat} {ty : TypeId} {pos : String} {aft : Array Edge}

/-- An index within the length. -/
theorem TL_index {α : Type} {t e : TypeId} {x y : Operand} {sz : Nat} {ag : Bool} {z : List Value} {enc : α → List Value} {ao : Option Addr} {l : List α} {n c : Nat} {kd : IntKind} {m : Int} (i : Nat) (hd : Nat.blt d N = true)
    [hu : SlcP P t e] [he : TyP P e sz ag z] (hx : ev L x = some (.slice ao n c)) (hy : ev L y = some (.int kd m)) (hs : ∀ w, SH B w0 w H → Sl w sz enc ao l) (hm : m = (i : Int)) (hi : i < l.length) (hn : l.length ≤ n)
    (k : TL r P Q N D B w0 ((d, .pointer (some (elA ao sz i 0))) :: L) H ops rest) : TL r P Q N D B w0 L H ops (⟨some d, .indexAddr t x y, ty, pos, aft, none⟩ :: rest) :=
  TL_val (by simp) hd _ (fun a w hf hss => by
    obtain ⟨j, _, hj, hsz, _, _⟩ := he.info
    obtain ⟨b, o, rfl⟩ := (hs w hss).some_ (by intro h; simp [h] at hi)
    subst hm
    have h1 : i < n := by omega
    simp [execOp, hf.ev hx, hf.ev hy, Instr.indexAt, run_underlying hu.u, asIntOf, sizeOf, typeInfo, hj, hsz, elA, add_plain']
    omega) k
theorem elA_add (ao : Option Addr) (k i f o : Nat) (h : ∃ b o, ao = some ⟨b, o, none⟩) : (elA ao k i f).add o = elA ao k i (f + o) := by
  obtain ⟨b, o', rfl⟩ := h
  simp [elA, add_plain', Nat.add_assoc]
theorem TL_fieldAddr_el {α : Type} {s f : Nat} {x : Operand} {off sz i o : Nat} {enc : α → List Value} {ao : Option Addr} {l : List α} (hd : Nat.blt d N = true) [hF : FldP P s f off] (hx : ev L x = some (.pointer (some (elA ao sz i o))))
    (hs : ∀ w, SH B w0 w H → Sl w sz enc ao l) (hl : l ≠ [])
    (k : TL r P Q N D B w0 ((d, .pointer (some (elA ao sz i (o + off)))) :: L) H ops rest) : TL r P Q N D B w0 L H ops (⟨some d, .fieldAddr s x f, ty, pos, aft, none⟩ :: rest) :=
  TL_val (by simp) hd _ (fun a w hf hss => by
    simp [execOp, hf.ev hx, hF.run (elA ao sz i o) w, elA_add _ _ _ _ _ ((hs w hss).some_ hl)]) k
theorem TL_load_el1 {α : Type} {t : TypeId} {sz' : Nat} {z : List Value} {x : Operand} {sz i o : Nat} {enc : α → List Value} {ao : Option Addr} {l : List α} {u : α} {v : Value} (hd : Nat.blt d N = true) [ht : TyP P t sz' false z] (hx : ev L x = some (.pointer (some (elA ao sz i o))))
    (hs : ∀ w, SH B w0 w H → Sl w sz enc ao l) (hu : l[i]? = some u) (hv : takeN 1 (dropN o (enc u)) = some [v])
    (k : TL r P Q N D B w0 ((d, v) :: L) H ops rest) : TL r P Q N D B w0 L H ops (⟨some d, .load t x, ty, pos, aft, none⟩ :: rest) :=
  TL_val (by simp) hd _ (fun a w hf hss => by
    have h1 := takeN_some hv
    rw [dropN_eq] at h1
    have h2 : (enc u)[o]? = some v := by
      have := congrArg (·[0]?) h1.1
      simpa [List.getElem?_take] using this.symm
    have hc := (hs w hss).cell i u hu o v h2
    simp [execOp, hf.ev hx, Instr.loadAt, Instr.sureAddr, run_load1 hc]) k
theorem TL_load_eln {α : Type} {t : TypeId} {sz' : Nat} {z : List Value} {x : Operand} {sz i o : Nat} {enc : α → List Value} {ao : Option Addr} {l : List α} {u : α} {vs : List Value} (hd : Nat.blt d N = true) [ht : TyP P t sz' true z] (hx : ev L x = some (.pointer (some (elA ao sz i o))))
    (hs : ∀ w, SH B w0 w H → Sl w sz enc ao l) (hu : l[i]? = some u) (hv : takeN sz' (dropN o (enc u)) = some vs)
    (k : TL r P Q N D B w0 ((d, .agg vs.toArray) :: L) H ops rest) : TL r P Q N D B w0 L H ops (⟨some d, .load t x, ty, pos, aft, none⟩ :: rest) :=
  TL_val (by simp) hd _ (fun a w hf hss => by
    have h1 := takeN_some hv
    rw [dropN_eq] at h1
    have hl : vs.length = sz' := by rw [h1.1]; simp at h1 ⊢; omega
    obtain ⟨b, o', rfl⟩ := (hs w hss).some_ (by intro h; simp [h] at hu)
    have := run_loadn (P := P) (t := t) (b := b) (o := o' + (i * sz + o)) (w := w) hl (fun j v hj => by
      have h2 : (enc u)[o + j]? = some v := by
        rw [h1.1, List.getElem?_take] at hj
        split at hj
        · simpa using hj
        · cases hj
      have hc := (hs w hss).cell i u hu _ v h2
      have e : elA (some ⟨b, o', none⟩) sz i (o + j) = ⟨b, o' + (i * sz + o) + j, none⟩ := by simp [elA, Nat.add_assoc]
      rw [e] at hc; exact hc)
    simp [execOp, hf.ev hx, Instr.loadAt, Instr.sureAddr, elA, this]) k

/-! ### Rows that grow -/
/-- A slice of the call's own that reads as l: nil, or the head of a whole block. 'ob': that block. -/
def Row {α : Type} (T : TypeId) (k : Nat) (enc : α → List Value) (ao : Option Addr) (cap : Nat) (ob : Hp) (l : List α) : Prop :=
  (∀ x ∈ l, (enc x).length = k ∧ oneCells (enc x) = true) ∧
  ((ao = none ∧ cap = 0 ∧ ob = [] ∧ l = []) ∨
   ∃ b more, ao = some ⟨b, 0, none⟩ ∧ ob = [(b, .cells (l.flatMap enc ++ more) T)] ∧ l.length ≤ cap ∧ cap ≤ maxLen ∧ (l.flatMap enc ++ more).length = cap * k)

theorem Row.nil {α : Type} (T : TypeId) (k : Nat) (enc : α → List Value) : Row T k enc none 0 [] ([] : List α) := ⟨fun x hx => (by cases hx), .inl ⟨rfl, rfl, rfl, rfl⟩⟩

theorem Row.sl {α : Type} {T : TypeId} {k : Nat} {enc : α → List Value} {ao : Option Addr} {cap : Nat} {ob : Hp} {l : List α} {B : Nat} {w0 w : World} {H : Hp} (h : Row T k enc ao cap ob l) (hs : SH B w0 w H) (hm : ∀ p ∈ ob, p ∈ H) : Sl w k enc ao l := by
  rcases h.2 with ⟨rfl, _, _, rfl⟩ | ⟨b, more, rfl, rfl, _, _, _⟩
  · exact Sl.nil _ _ _ _
  · exact Sl.of_blk hs (hm _ List.mem_cons_self) (fun x hx => (h.1 x hx).1) ⟨more, rfl⟩
theorem Row.le {α : Type} {T : TypeId} {k : Nat} {enc : α → List Value} {ao : Option Addr} {cap : Nat} {ob : Hp} {l : List α} (h : Row T k enc ao cap ob l) : l.length ≤ cap := by
  rcases h.2 with ⟨_, _, _, rfl⟩ | ⟨_, _, _, _, h, _⟩
  · simp
  · exact h
theorem flat_oneCells {α : Type} {enc : α → List Value} : ∀ (l : List α), (∀ x ∈ l, oneCells (enc x) = true) → ∀ u ∈ l.flatMap enc, u.oneCell' = true := by
  intro l h u hu
  obtain ⟨x, hx, hux⟩ := List.mem_flatMap.1 hu
  exact oneCells_mem (h x hx) u hux
theorem flat_len {α : Type} {enc : α → List Value} {k : Nat} : ∀ (l : List α), (∀ x ∈ l, (enc x).length = k) → (l.flatMap enc).length = l.length * k := by
  intro l
  induction l with
  | nil => intro _; simp
  | cons x l ih => intro hk; simp [List.flatMap_cons, ih (fun y hy => hk y (List.mem_cons_of_mem _ hy)), hk x List.mem_cons_self, Nat.add_mul, Nat.add_comm]
/-- The flat cells of a slice that is read. -/
theorem Sl.flat {α : Type} {w : World} {k : Nat} {enc : α → List Value} {b o : Nat} {l : List α} (h : Sl w k enc (some ⟨b, o, none⟩) l) : ∀ j v, (l.flatMap enc)[j]? = some v → w.cell? ((⟨b, o, none⟩ : Addr).add j) = some v := by
  intro j v hj
  rw [add_plain']
  have key : ∀ (l : List α) (i0 : Nat), (∀ x ∈ l, (enc x).length = k) → (∀ i x, l[i]? = some x → ∀ f v, (enc x)[f]? = some v → w.cell? ⟨b, o + ((i0 + i) * k + f), none⟩ = some v) → ∀ j, (l.flatMap enc)[j]? = some v → w.cell? ⟨b, o + (i0 * k + j), none⟩ = some v := by
    intro l
    induction l with
    | nil => intro i0 _ _ j hj; simp at hj
    | cons x l ih =>
      intro i0 hk hc j hj
      rw [List.flatMap_cons] at hj
      have hx := hk x List.mem_cons_self
      rcases Nat.lt_or_ge j (enc x).length with h1 | h1
      · rw [List.getElem?_append_left h1] at hj
        exact hc 0 x rfl j v hj
      · rw [List.getElem?_append_right h1, hx] at hj
        have := ih (i0 + 1) (fun y hy => hk y (List.mem_cons_of_mem _ hy)) (fun i y hy => by
          have := hc (i + 1) y (by simpa using hy)
          rw [show i0 + 1 + i = i0 + (i + 1) by omega]; exact this) (j - k) hj
        rw [show i0 * k + j = (i0 + 1) * k + (j - k) by rw [Nat.succ_mul]; omega]
        exact this
  have := key l 0 h.enc_len (fun i x hx f v hv => by rw [Nat.zero_add]; exact h.cell i x hx f v hv) j hj
  simpa using this

theorem arr_eq1 (a : List Value) (Z : Array Value) : a.toArray ++ Z = (a ++ Z.toList).toArray := by apply Array.ext'; simp
theorem arr_eq2 (a b : List Value) (Z : Array Value) : a.toArray ++ b.toArray ++ Z = (a ++ b ++ Z.toList).toArray := by apply Array.ext'; simp
/-- append where the slice has no room: a new row. -/
theorem run_append_new {α : Type} {t ty e : TypeId} {sz : Nat} {ag : Bool} {z : List Value} {by_ : Nat} {enc : α → List Value} {ao ao2 : Option Addr} {cap c2 : Nat} {l l2 : List α} {w : World}
    [hu : SlcP P t e] [he : TyP P e sz ag z] (hzl : z.length = sz) [hby : BytP P e by_] (hs : Sl w sz enc ao l) (hs2 : Sl w sz enc ao2 l2) (hnil : l = [] → ao = none → cap = 0)
    (hg : cap < l.length + l2.length) (hle : l.length ≤ cap) (h1 : ∀ u ∈ l ++ l2, oneCells (enc u) = true) (hb : (l.length + l2.length) * by_ ≤ 140737488355328) (hm : l.length + l2.length ≤ maxLen) (hss : SH B w0 w H) :
    ∃ b cap' ob' w', Row e sz enc (some ⟨b, 0, none⟩) cap' ob' (l ++ l2) ∧ (Builtin.append_ #[t, t] ty #[.slice ao l.length cap, .slice ao2 l2.length c2]).run P w = .ok (.slice (some ⟨b, 0, none⟩) (l ++ l2).length cap') w' ∧ SH B w0 w' (ob' ++ H) := by
  obtain ⟨i, v, hi, hsi, hz, hc⟩ := he.info
  have hbi : i.bytes = by_ := by rw [← hby.b]; simp [Program.bytesOf, hi]
  have hl2 : l2 ≠ [] := by intro h; subst h; simp at hg; omega
  obtain ⟨b2, o2, rfl⟩ := hs2.some_ hl2
  have hmx : l.length + l2.length ≤ 9223372036854775807 := by simpa [maxLen] using hm
  have hEl : ∀ x ∈ l ++ l2, (enc x).length = sz := fun x hx => by
    rcases List.mem_append.1 hx with h | h
    · exact hs.enc_len x h
    · exact hs2.enc_len x h
  have fin : ∀ cap', l.length + l2.length ≤ cap' → cap' ≤ maxLen →
      ∃ more, (l ++ l2).flatMap enc ++ more = (l ++ l2).flatMap enc ++ (Builtin.zeroCells v.cells (cap' - (l.length + l2.length))).toList ∧ ((l ++ l2).flatMap enc ++ more).length = cap' * sz := by
    intro cap' h _
    refine ⟨_, rfl, ?_⟩
    rw [List.length_append, flat_len _ hEl]
    have : (Builtin.zeroCells v.cells (cap' - (l.length + l2.length))).toList.length = (cap' - (l.length + l2.length)) * sz := by
      rw [Array.length_toList, size_zeroCells, hc]; simp [hzl]
    rw [this, ← Nat.add_mul, List.length_append]
    congr 1; omega
  have grow : ∀ old, old < l.length + l2.length → ∀ w', w' = w.drew.alloc (.cells ((l ++ l2).flatMap enc ++ (Builtin.zeroCells v.cells (grownCap w (l.length + l2.length) old e - (l.length + l2.length))).toList).toArray e) →
      ∃ cap' ob', cap' = grownCap w (l.length + l2.length) old e ∧ Row e sz enc (some ⟨w.heap.size, 0, none⟩) cap' ob' (l ++ l2) ∧ SH B w0 w' (ob' ++ H) := by
    intro old ho w' hw'
    subst hw'
    have hge := grownCap_ge w (l.length + l2.length) old e
    have hcm := grownCap_le_maxLen w (l.length + l2.length) old e hm
    obtain ⟨more, hmore, hml⟩ := fin _ hge hcm
    refine ⟨_, [(w.heap.size, .cells ((l ++ l2).flatMap enc ++ more) e)], rfl, ⟨fun x hx => ⟨hEl x hx, h1 x hx⟩, .inr ⟨w.heap.size, more, rfl, rfl, by simp; omega, hcm, hml⟩⟩, ?_⟩
    rw [hmore]
    exact (hss.drew).alloc (Blk.cells ((l ++ l2).flatMap enc ++ (Builtin.zeroCells v.cells (grownCap w (l.length + l2.length) old e - (l.length + l2.length))).toList) e)
  by_cases hl0 : l = [] ∧ ao = none
  · obtain ⟨rfl, rfl⟩ := hl0
    obtain rfl := hnil rfl rfl
    have hr := run_append_nil (P := P) w t ty e i v hu.u hi hz ⟨b2, o2, none⟩ l2.length c2 (l2.flatMap enc) (by rw [flat_len _ hs2.enc_len, hsi]) hs2.flat (by
      rcases Nat.eq_zero_or_pos l2.length with h | h
      · exact absurd (List.eq_nil_of_length_eq_zero h) hl2
      · exact h) (by simp at hmx; omega) (by rw [hbi]; simp at hb; omega)
    obtain ⟨cap', ob', e1, hrow, hsh⟩ := grow 0 (by simpa using hg) _ rfl
    refine ⟨_, cap', ob', _, hrow, ?_, hsh⟩
    simp only [List.length_nil, Nat.zero_add, List.nil_append] at e1 hr ⊢
    rw [hr, e1, arr_eq1]
  · have hao : ∃ b o, ao = some ⟨b, o, none⟩ ∨ (l = [] ∧ ∃ a, ao = some a) := by
      by_cases h : l = []
      · cases ao with
        | none => exact absurd ⟨h, rfl⟩ hl0
        | some a => exact ⟨0, 0, .inr ⟨h, a, rfl⟩⟩
      · obtain ⟨b, o, rfl⟩ := hs.some_ h; exact ⟨b, o, .inl rfl⟩
    have hfl : ∃ a, ao = some a ∧ ∀ j u, (l.flatMap enc)[j]? = some u → w.cell? (a.add j) = some u := by
      obtain ⟨b, o, h | ⟨h, a, ha⟩⟩ := hao
      · subst h; exact ⟨_, rfl, hs.flat⟩
      · subst h; exact ⟨a, ha, fun j u h => by simp at h⟩
    obtain ⟨a, rfl, hfl⟩ := hfl
    have hr := run_append_grow (P := P) w t ty e i v hu.u hi hz a l.length cap (l.flatMap enc) (by rw [flat_len _ hs.enc_len, hsi]) hfl ⟨b2, o2, none⟩ l2.length c2 (l2.flatMap enc) (by rw [flat_len _ hs2.enc_len, hsi]) hs2.flat hg (by omega)
      (growslice_fits (by omega) (by rw [hbi]; exact hb))
    obtain ⟨cap', ob', e1, hrow, hsh⟩ := grow cap (by omega) _ rfl
    refine ⟨_, cap', ob', _, hrow, ?_, hsh⟩
    rw [hr, e1, arr_eq2, List.length_append, List.flatMap_append]

/-- 'append(s, src...)': s a row of the call's own, the source read anywhere. -/
theorem TL_append {α : Type} {t e T : TypeId} {x y : Operand} {sz : Nat} {ag : Bool} {z : List Value} {by_ : Nat} {enc : α → List Value} {ao ao2 : Option Addr} {cap n2 c2 : Nat} {ob G : Hp} {l l2 : List α} {n : Nat} (hd : Nat.blt d N = true)
    [hu : SlcP P t e] [he : TyP P e sz ag z] (hzl : z.length = sz) [hby : BytP P e by_] (hT : T = e)
    (hx : ev L x = some (.slice ao n cap)) (hn : n = l.length) (hy : ev L y = some (.slice ao2 n2 c2)) (hn2 : n2 = l2.length) (hrow : Row T sz enc ao cap ob l) (hp : List.Perm (ob ++ G) H)
    (hs : ∀ w, SH B w0 w H → Sl w sz enc ao2 l2) (h1 : ∀ u ∈ l2, oneCells (enc u) = true) (hb : (l.length + l2.length) * by_ ≤ 140737488355328) (hm : l.length + l2.length ≤ maxLen)
    (k : ∀ ao' cap' ob', Row T sz enc ao' cap' ob' (l ++ l2) → TL r P Q N D B w0 ((d, .slice ao' (l ++ l2).length cap') :: L) (ob' ++ G) ops rest) :
    TL r P Q N D B w0 L H ops (⟨some d, .call { callee := .builtin .append, args := #[x, y], argTypes := #[t, t] }, ty, pos, aft, none⟩ :: rest) := by
  subst hT hn hn2
  refine TL_valw (by simp) hd (fun q : Option Addr × Nat × Hp => .slice q.1 (l ++ l2).length q.2.1) (fun q => q.2.2 ++ G) (fun q => Row T sz enc q.1 q.2.1 q.2.2 (l ++ l2)) (fun a w hf hss => ?_) (fun q hq => k q.1 q.2.1 q.2.2 hq)
  have hss2 : SH B w0 w (ob ++ G) := hss.perm hp
  obtain ⟨i, v, hi, hsi, hz, hc⟩ := he.info
  have hbi : i.bytes = by_ := by rw [← hby.b]; simp [Program.bytesOf, hi]
  have hsl := hs w hss
  have hsl1 : Sl w sz enc ao l := hrow.sl hss2 (fun p hp => List.mem_append_left _ hp)
  have hrun : ∀ v' w', (Builtin.append_ #[t, t] ty #[.slice ao l.length cap, .slice ao2 l2.length c2]).run P w = .ok v' w' →
      (execOp a.eval ⟨some d, .call { callee := .builtin .append, args := #[x, y], argTypes := #[t, t] }, ty, pos, aft, none⟩).run P w = .ok (.value v') w' := by
    intro v' w' h
    simp [execOp, resolve, invoke, Go.builtin, hf.ev hx, hf.ev hy, h]
  by_cases hroom : l.length + l2.length ≤ cap
  · rcases hrow.2 with ⟨rfl, rfl, rfl, rfl⟩ | ⟨g, more, rfl, rfl, hle, hcm, hml⟩
    · -- nil, and nothing to append
      have hl2 : l2 = [] := List.eq_nil_of_length_eq_zero (by simpa using hroom)
      subst hl2
      refine ⟨(none, 0, []), w, Row.nil _ _ _, ?_, hss2⟩
      refine hrun _ _ ?_
      cases ao2 <;> simp [Builtin.append_, run_underlying hu.u, sizeOf, typeInfo, hi, Builtin.lenOf, Builtin.firstCells, loadCells, loadCellsFrom]
    · have hg := (hss2.holds g _ (List.mem_append_left _ List.mem_cons_self)).2
      simp only [Blk.toObj] at hg
      by_cases hl2 : l2 = []
      · subst hl2
        refine ⟨(some ⟨g, 0, none⟩, cap, [(g, .cells (l.flatMap enc ++ more) T)]), w, ⟨by simpa using hrow.1, .inr ⟨g, more, rfl, by simp, by simpa using hle, hcm, by simpa using hml⟩⟩, ?_, hss2⟩
        refine hrun _ _ ?_
        cases ao2 <;> simp [Builtin.append_, run_underlying hu.u, sizeOf, typeInfo, hi, Builtin.lenOf, Builtin.firstCells, loadCells, loadCellsFrom, hle, storeCells]
      · obtain ⟨b2, o2, rfl⟩ := hsl.some_ hl2
        have hn1 : (l.flatMap enc).length = l.length * sz := flat_len _ hsl1.enc_len
        have hn2 : (l2.flatMap enc).length = l2.length * sz := flat_len _ hsl.enc_len
        have hfit : l.length * i.size + (l2.flatMap enc).length ≤ (l.flatMap enc ++ more).toArray.size := by
          rw [hn2, hsi, List.size_toArray, hml, ← Nat.add_mul]
          exact Nat.mul_le_mul_right _ hroom
        have hr := run_append_room (P := P) w t ty T i hu.u hi g l.length cap (l.flatMap enc ++ more).toArray hg ⟨b2, o2, none⟩ l2.length c2 (l2.flatMap enc) (by rw [hn2, hsi]) hsl.flat (flat_oneCells _ h1) hroom hfit
        have hnew : (((l.flatMap enc ++ more).toArray.toList.take (l.length * i.size) ++ l2.flatMap enc ++ (l.flatMap enc ++ more).toArray.toList.drop (l.length * i.size + (l2.flatMap enc).length))) = (l ++ l2).flatMap enc ++ more.drop (l2.flatMap enc).length := by
          rw [hsi, ← hn1]
          show (l.flatMap enc ++ more).take (l.flatMap enc).length ++ l2.flatMap enc ++ (l.flatMap enc ++ more).drop ((l.flatMap enc).length + (l2.flatMap enc).length) = _
          rw [List.take_left, ← List.drop_drop, List.drop_left, List.flatMap_append]
        rw [hnew] at hr
        have hml2 : ((l ++ l2).flatMap enc ++ more.drop (l2.flatMap enc).length).length = cap * sz := by
          rw [← hml]
          simp only [List.length_append, List.flatMap_append, List.length_drop]
          have : (l2.flatMap enc).length ≤ more.length := by
            simp only [List.size_toArray, List.length_append, hsi, hn1] at hfit
            omega
          omega
        refine ⟨(some ⟨g, 0, none⟩, cap, [(g, .cells ((l ++ l2).flatMap enc ++ more.drop (l2.flatMap enc).length) T)]), _, ⟨fun x hx => ?_, .inr ⟨g, _, rfl, rfl, by simpa using hroom, hcm, hml2⟩⟩, hrun _ _ (by rw [hr, List.length_append]), ?_⟩
        · rcases List.mem_append.1 hx with h | h
          · exact hrow.1 x h
          · exact ⟨hsl.enc_len x h, h1 x h⟩
        · refine hss2.upd (b := g) (k := .cells (l.flatMap enc ++ more) T) (k' := .cells ((l ++ l2).flatMap enc ++ more.drop (l2.flatMap enc).length) T) (Upd.head) rfl rfl rfl (by simp) ?_ ?_
          · exact setRow_heap w g _ _ T _ hg
          · intro c hc; exact setRow_other w g c _ hc
  · have hnil : l = [] → ao = none → cap = 0 := by
      rintro rfl rfl
      rcases hrow.2 with ⟨_, h, _⟩ | ⟨_, _, h, _⟩
      · exact h
      · simp at h
    obtain ⟨b, cap', ob', w', h2, h3, h4⟩ := run_append_new (P := P) (t := t) (ty := ty) hzl hsl1 hsl hnil (by omega) hrow.le (fun u hu => by
      rcases List.mem_append.1 hu with h | h
      · exact (hrow.1 u h).2
      · exact h1 u h) hb hm hss2 (c2 := c2)
    refine ⟨(some ⟨b, 0, none⟩, cap', ob'), w', h2, hrun _ _ h3, h4.sub ?_⟩
    exact (List.sublist_append_right ob G).append_left ob'

end
end Go.Eng
/- The engine, part 6: a region that draws its order of evaluation. One walk in the order of the text serves every order: each operation ahead of the tail only lays new blocks, and is walked from what it looks at. -/
namespace Go.Eng
open Go Go.RowKit

/-- What an operation ahead of the tail leaves in its slot: one value; or some value, with new blocks. -/
inductive Post where
  | val (c : Value)
  | rel (Φ : Value → Hp → Prop)
def Post.ok : Post → Value → Hp → Prop
  | .val c, v, h => v = c ∧ h = []
  | .rel Φ, v, h => Φ v h
abbrev Fact := Nat × (Value → Hp → Prop)

def envA : Env → List (Nat × Post) → Env
  | E, [] => E
  | E, q :: ps => match q.2 with
    | .val c => envA ((q.1, c) :: E) ps
    | .rel _ => envA E ps
def fsA : List Fact → List (Nat × Post) → List Fact
  | Fs, [] => Fs
  | Fs, q :: ps => match q.2 with
    | .val _ => fsA Fs ps
    | .rel Φ => fsA ((q.1, Φ) :: Fs) ps
def AllF : List Fact → (Env → Hp → Prop) → Prop
  | [], K => K [] []
  | q :: Fs, K => ∀ v h, q.2 v h → AllF Fs (fun E G => K ((q.1, v) :: E) (h ++ G))
def fltF (ops : Array Oper) (o : Oper) (Fs : List Fact) : List Fact := Fs.filter fun q => (o.looksAt ops).contains q.1

theorem AllF_inst (va : Nat → Value) (hσ : Nat → Hp) : ∀ (Fs : List Fact) (K : Env → Hp → Prop), AllF Fs K → (∀ q ∈ Fs, q.2 (va q.1) (hσ q.1)) → K (Fs.map fun q => (q.1, va q.1)) (Fs.flatMap fun q => hσ q.1) := by
  intro Fs
  induction Fs with
  | nil => intro K h _; exact h
  | cons q Fs ih =>
    intro K h hq
    exact ih _ (h _ _ (hq q List.mem_cons_self)) (fun p hp => hq p (List.mem_cons_of_mem _ hp))

section
variable (r : Option Nat) (P : Program) (N : Nat) (D : List Deferred) (B : Nat) (w0 : World) (H : Hp) (ops : Array Oper)
/-- The ends that are owed of one operation. -/
def QR (d : Nat) (Φ : Value → Hp → Prop) (H' : Hp) : Exit → Act → World → Prop := fun e a w => e = .normal ∧ a.defers = D ∧ ∃ v h, a.tmps[d]? = some v ∧ Φ v h ∧ SH B w0 w (h ++ H')
def QV (d : Nat) (c : Value) (H' : Hp) : Exit → Act → World → Prop := fun e a w => e = .normal ∧ a.defers = D ∧ a.tmps[d]? = some c ∧ SH B w0 w H'
def ObR (o : Oper) (q : Nat × Post) (E : Env) (Fs : List Fact) : Prop :=
  AllF (fltF ops o Fs) fun EF G => ∀ X : Hp, TL r P (QR D B w0 q.1 q.2.ok (G ++ (X ++ H))) N D B w0 (EF ++ E) (G ++ (X ++ H)) ops [o]

inductive PG : List Oper → Env → List Fact → List (Nat × Post) → Prop
  | nil {E Fs} : PG [] E Fs []
  | val {o rest E Fs d c ps} : o.dst = some d → Nat.blt d N = true → (AllF (fltF ops o Fs) fun EF G => ∀ X : Hp, TL r P (QV D B w0 d c (G ++ (X ++ H))) N D B w0 (EF ++ E) (G ++ (X ++ H)) ops [o]) →
      PG rest ((d, c) :: E) Fs ps → PG (o :: rest) E Fs ((d, .val c) :: ps)
  | rel {o rest E Fs d ps} (Φ : Value → Hp → Prop) : o.dst = some d → Nat.blt d N = true → (AllF (fltF ops o Fs) fun EF G => ∀ X : Hp, TL r P (QR D B w0 d Φ (G ++ (X ++ H))) N D B w0 (EF ++ E) (G ++ (X ++ H)) ops [o]) →
      PG rest E ((d, Φ) :: Fs) ps → PG (o :: rest) E Fs ((d, .rel Φ) :: ps)
end

section
variable {r : Option Nat} {P : Program} {Q : Exit → Act → World → Prop} {N : Nat} {D : List Deferred} {B : Nat} {w0 : World} {L : Env} {H : Hp} {ops : Array Oper} {rest : List Oper}

theorem AllF.mono {Fs : List Fact} : ∀ {K K' : Env → Hp → Prop}, (∀ E G, K E G → K' E G) → AllF Fs K → AllF Fs K' := by
  induction Fs with
  | nil => intro K K' h hk; exact h _ _ hk
  | cons q Fs ih => intro K K' h hk v g hv; exact ih (fun E G => h _ _) (hk v g hv)

theorem TL.mono_Q {Q' : Exit → Act → World → Prop} (hq : ∀ e a w, Q e a w → Q' e a w) (h : TL r P Q N D B w0 L H ops rest) : TL r P Q' N D B w0 L H ops rest := by
  intro a w hf hs
  have key : ∀ (l : List Oper) a w, wpListIn (FW r) 0 P ops Q l a w → wpListIn (FW r) 0 P ops Q' l a w := by
    intro l
    induction l with
    | nil => intro a w h; exact hq _ _ _ h
    | cons o l ih =>
      intro a w h
      unfold wpListIn at h ⊢
      split
      · rename_i hw
        rw [if_pos hw] at h
        refine ⟨h.1, ?_⟩
        have h := h.2
        generalize (o.semAt (FW r).round a.eval).run P w = res at *
        cases res with
        | ok x w' =>
          cases x <;> simp only [Oper.uponIn] at h ⊢ <;>
            first
              | exact ih _ _ h
              | exact ⟨h.1, CallsIn.mono h.2 (fun e w'' he => by cases e <;> first | exact ih _ _ he | exact hq _ _ _ he | exact let ⟨a, w, h⟩ := he; ⟨a, w, hq _ _ _ h⟩)⟩
              | exact ⟨h.1, RowsIn.mono h.2 (fun _ _ he => ih _ _ he)⟩
              | exact ⟨h.1, RoundIn.mono h.2 (fun e w'' he => by cases e <;> first | exact ih _ _ he | exact hq _ _ _ he | exact let ⟨a, w, h⟩ := he; ⟨a, w, hq _ _ _ h⟩)⟩
        | halt x w' => cases x <;> simp only [Oper.uponIn] at h ⊢ <;> first | exact hq _ _ _ h | exact h
      · rename_i hw
        rw [if_neg hw] at h
        exact ⟨h.1, ih _ _ h.2⟩
  exact key _ _ _ (h a w hf hs)

theorem PG_spec {l : List Oper} {E : Env} {Fs : List Fact} {ps : List (Nat × Post)} (h : PG r P N D B w0 H ops l E Fs ps) :
    l.length = ps.length ∧ ∀ i o, l[i]? = some o → ∃ q, ps[i]? = some q ∧ o.dst = some q.1 ∧ q.1 < N ∧ ObR r P N D B w0 H ops o q (envA E (ps.take i)) (fsA Fs (ps.take i)) := by
  induction h with
  | nil => exact ⟨rfl, fun i o h => by simp at h⟩
  | val hd hN hob _ ih =>
    refine ⟨by simp [ih.1], fun i o h => ?_⟩
    cases i with
    | zero =>
      simp at h; subst h
      refine ⟨_, rfl, hd, by simpa using hN, ?_⟩
      exact AllF.mono (fun EF G hh X => (hh X).mono_Q (fun e a w ⟨h1, h0, h2, h3⟩ => ⟨h1, h0, _, [], h2, ⟨rfl, rfl⟩, h3⟩)) hob
    | succ i =>
      obtain ⟨q, h1, h2⟩ := ih.2 i o (by simpa using h)
      exact ⟨q, by simpa using h1, h2⟩
  | rel Φ hd hN hob _ ih =>
    refine ⟨by simp [ih.1], fun i o h => ?_⟩
    cases i with
    | zero =>
      simp at h; subst h
      exact ⟨_, rfl, hd, by simpa using hN, hob⟩
    | succ i =>
      obtain ⟨q, h1, h2⟩ := ih.2 i o (by simpa using h)
      exact ⟨q, by simpa using h1, h2⟩

theorem lk_append (E1 E2 : Env) (t : Nat) : lk (E1 ++ E2) t = match lk E1 t with | some v => some v | none => lk E2 t := by
  induction E1 with
  | nil => rfl
  | cons p E1 ih =>
    by_cases h : p.1 = t
    · subst h
      rw [show p = (p.1, p.2) from rfl, List.cons_append, lk_cons_same, lk_cons_same]
    · rw [show p = (p.1, p.2) from rfl, List.cons_append, lk_cons_ne _ _ h, lk_cons_ne _ _ h, ih]

theorem lk_envA : ∀ (ps : List (Nat × Post)) (E : Env) (t : Nat) (v : Value), lk (envA E ps) t = some v → (∃ (j : Nat) (c : Value), ps[j]? = some (t, Post.val c) ∧ v = c) ∨ (lk E t = some v ∧ ∀ (j : Nat) (c : Value), ps[j]? ≠ some (t, Post.val c)) := by
  intro ps
  induction ps with
  | nil => intro E t v h; exact .inr ⟨h, fun j c h => by simp at h⟩
  | cons q ps ih =>
    obtain ⟨d, p⟩ := q
    intro E t v h
    cases p with
    | val c =>
      rcases ih _ t v h with ⟨j, c', h1, h2⟩ | ⟨h1, h2⟩
      · exact .inl ⟨j + 1, c', by simpa using h1, h2⟩
      · by_cases e : d = t
        · subst e
          rw [lk_cons_same] at h1
          cases h1
          exact .inl ⟨0, _, rfl, rfl⟩
        · rw [lk_cons_ne _ _ e] at h1
          refine .inr ⟨h1, fun j c' hj => ?_⟩
          cases j with
          | zero => simp at hj; exact e hj.1
          | succ j => exact h2 j c' (by simpa using hj)
    | rel Φ =>
      rcases ih _ t v h with ⟨j, c', h1, h2⟩ | ⟨h1, h2⟩
      · exact .inl ⟨j + 1, c', by simpa using h1, h2⟩
      · refine .inr ⟨h1, fun j c' hj => ?_⟩
        cases j with
        | zero => simp at hj
        | succ j => exact h2 j c' (by simpa using hj)

theorem mem_fsA : ∀ (ps : List (Nat × Post)) (Fs : List Fact) (q : Fact), q ∈ fsA Fs ps ↔ (q ∈ Fs ∨ ∃ j : Nat, ps[j]? = some (q.1, Post.rel q.2)) := by
  intro ps
  induction ps with
  | nil => intro Fs q; simp [fsA]
  | cons p ps ih =>
    obtain ⟨d, p⟩ := p
    intro Fs q
    cases p with
    | val c =>
      rw [fsA, ih]
      constructor
      · rintro (h | ⟨j, h⟩)
        · exact .inl h
        · exact .inr ⟨j + 1, by simpa using h⟩
      · rintro (h | ⟨j, h⟩)
        · exact .inl h
        · cases j with
          | zero => simp at h
          | succ j => exact .inr ⟨j, by simpa using h⟩
    | rel Φ =>
      rw [fsA, ih]
      constructor
      · rintro (h | ⟨j, h⟩)
        · rcases List.mem_cons.1 h with rfl | h
          · exact .inr ⟨0, rfl⟩
          · exact .inl h
        · exact .inr ⟨j + 1, by simpa using h⟩
      · rintro (h | ⟨j, h⟩)
        · exact .inl (List.mem_cons_of_mem _ h)
        · cases j with
          | zero =>
            simp only [List.getElem?_cons_zero, Option.some.injEq, Prod.mk.injEq, Post.rel.injEq] at h
            exact .inl (by rw [show q = (q.1, q.2) from rfl, ← h.1, ← h.2]; exact List.mem_cons_self)
          | succ j => exact .inr ⟨j, by simpa using h⟩

theorem fsA_nodup : ∀ (ps : List (Nat × Post)) (Fs : List Fact), (Fs.map (·.1) ++ ps.map (·.1)).Nodup → ((fsA Fs ps).map (·.1)).Nodup := by
  intro ps
  induction ps with
  | nil => intro Fs h; simpa [fsA] using h
  | cons p ps ih =>
    obtain ⟨d, p⟩ := p
    intro Fs h
    rw [List.map_cons] at h
    have hp : (d :: (Fs.map (·.1) ++ ps.map (·.1))).Nodup := (List.perm_middle.nodup_iff).1 h
    cases p with
    | val c => exact ih Fs (List.nodup_cons.1 hp).2
    | rel Φ => exact ih ((d, Φ) :: Fs) hp

/-! ### The check -/
def depsL (ops : Array Oper) (i : Nat) : List Nat := match ops[i]? with
  | some o => (o.after.toList.filter (fun e => Region.binds .any e)).map (·.on)
  | none => []
def reachN (ops : Array Oper) : Nat → List Nat → List Nat
  | 0, S => S
  | n + 1, S => reachN ops n (S ++ S.flatMap (depsL ops)).eraseDups
def plainOp : Op → Bool
  | .defer _ => false
  | .select .. => false
  | _ => true
def dstsL (l : List Oper) : List Nat := l.filterMap (·.dst)
def drawOk (l : List Oper) (T : Nat) : Bool :=
  Nat.ble T l.length && (l.all fun o => plainOp o.op) &&
  ((List.range l.length).all fun i => (depsL l.toArray i).all fun k => Nat.blt k i) &&
  (let ds := (l.take T).map (·.dst)
   (List.range T).all fun i => (List.range T).all fun j =>
     (match ds[j]?, l[i]? with
      | some (some d), some o => !(o.looksAt l.toArray).contains d || (depsL l.toArray i).contains j || (reachN l.toArray l.length (depsL l.toArray j)).contains i
      | _, _ => true) && (Nat.beq i j || !(ds[i]? == ds[j]?))) &&
  ((List.range l.length).all fun i => Nat.blt i T || (let R := reachN l.toArray l.length (depsL l.toArray i); (List.range i).all fun k => R.contains k))

end

section
variable {r : Option Nat} {P : Program} {Q : Exit → Act → World → Prop} {N : Nat} {D : List Deferred} {B : Nat} {w0 : World} {L : Env} {H : Hp}

/-- How far a drawn order has come. -/
structure Stage (l : List Oper) (T : Nat) (ps : List (Nat × Post)) (N : Nat) (D : List Deferred) (B : Nat) (w0 : World) (L : Env) (H : Hp) (listed : Array Bool) (a : Act) (w : World) : Prop where
  size : a.tmps.size = N
  defers : a.defers = D
  base : ∀ t v, lk L t = some v → (∀ (j : Nat) q, ps[j]? = some q → q.1 = t → listed.getD j true = false) → a.tmps[t]? = some v
  done : ∃ (hσ : Nat → Hp) (Is : List Nat) (X : Hp), Is.Nodup ∧ (∀ d, d ∈ Is ↔ ∃ (j : Nat) (q : Nat × Post), ps[j]? = some q ∧ q.1 = d ∧ listed.getD j true = true) ∧
    SH B w0 w (Is.flatMap hσ ++ (X ++ H)) ∧ ∀ (j : Nat) q, ps[j]? = some q → listed.getD j true = true → ∃ v, a.tmps[q.1]? = some v ∧ q.2.ok v (hσ q.1)

theorem lk_map_some {Fs : List Fact} {va : Nat → Value} {t : Nat} {v : Value} : lk (Fs.map fun q => (q.1, va q.1)) t = some v → v = va t ∧ ∃ q ∈ Fs, q.1 = t := by
  induction Fs with
  | nil => intro h; cases h
  | cons q Fs ih =>
    intro h
    rw [List.map_cons] at h
    by_cases e : q.1 = t
    · subst e
      rw [lk_cons_same] at h
      cases h
      exact ⟨rfl, q, List.mem_cons_self, rfl⟩
    · rw [lk_cons_ne _ _ e] at h
      obtain ⟨h1, p, hp, h2⟩ := ih h
      exact ⟨h1, p, List.mem_cons_of_mem _ hp, h2⟩
theorem lk_map_none {Fs : List Fact} {va : Nat → Value} {t : Nat} : lk (Fs.map fun q => (q.1, va q.1)) t = none → ∀ q ∈ Fs, q.1 ≠ t := by
  intro h q hq e
  induction Fs with
  | nil => cases hq
  | cons p Fs ih =>
    rw [List.map_cons] at h
    by_cases e' : p.1 = t
    · rw [show p.1 = t from e', lk_cons_same] at h; cases h
    · rw [lk_cons_ne _ _ e'] at h
      rcases List.mem_cons.1 hq with rfl | hq
      · exact e' e
      · exact ih h hq

/-- In a stage, the environment of an operation's own walk holds, as far as the slot is not written out of turn. -/
theorem Stage.lookup {l : List Oper} {T : Nat} {ps : List (Nat × Post)} {listed : Array Bool} {a : Act} {w : World} (st : Stage l T ps N D B w0 L H listed a w) {i : Nat} {J : List Fact} {t : Nat} {v : Value}
    (hturn : ∀ (j : Nat) q, ps[j]? = some q → q.1 = t → (j < i ∧ listed.getD j true = true) ∨ (i < j ∧ listed.getD j true = false)) (hJ : ∀ q ∈ J, ∃ j : Nat, ps[j]? = some (q.1, Post.rel q.2) ∧ listed.getD j true = true)
    (hJt : ∀ q ∈ fsA [] (ps.take i), q.1 = t → q ∈ J)
    (h : lk ((J.map fun q => (q.1, a.tmps.getD q.1 undef)) ++ envA L (ps.take i)) t = some v) : a.tmps[t]? = some v := by
  obtain ⟨hσ, Is, X, _, _, _, hdone⟩ := st.done
  rw [lk_append] at h
  cases hl : lk (J.map fun q => (q.1, a.tmps.getD q.1 undef)) t with
  | some u =>
    rw [hl] at h
    cases h
    obtain ⟨h1, q, hq, h2⟩ := lk_map_some (va := fun k => a.tmps.getD k undef) hl
    subst h2
    obtain ⟨j, hj, hlj⟩ := hJ q hq
    obtain ⟨v', hv', _⟩ := hdone j _ hj hlj
    rw [h1]
    simp only at hv'
    simp [Array.getD_eq_getD_getElem?, hv']
  | none =>
    rw [hl] at h
    rcases lk_envA _ _ _ _ h with ⟨j, c, h1, h2⟩ | ⟨h1, h2⟩
    · subst h2
      rw [List.getElem?_take] at h1
      split at h1
      · rename_i hji
        have hlj : listed.getD j true = true := by
          rcases hturn j _ h1 rfl with h | h
          · exact h.2
          · omega
        obtain ⟨v', hv', hv2, _⟩ := hdone j _ h1 hlj
        rw [hv2] at hv'; exact hv'
      · cases h1
    · refine st.base t v h1 (fun j q hj hq => ?_)
      rcases hturn j q hj hq with ⟨hji, hlj⟩ | h
      rotate_left
      · exact h.2
      exfalso
      subst hq
      obtain ⟨d, p⟩ := q
      have ht : (ps.take i)[j]? = some (d, p) := by rw [List.getElem?_take, if_pos hji]; exact hj
      cases p with
      | val c => exact h2 j c ht
      | rel Φ =>
        have hm := hJt (d, Φ) ((mem_fsA _ _ _).2 (.inr ⟨j, ht⟩)) rfl
        exact lk_map_none (va := fun k => a.tmps.getD k undef) hl _ hm rfl

theorem perm_pick {Is J : List Nat} (hI : Is.Nodup) (hJ : J.Nodup) (hs : ∀ d ∈ J, d ∈ Is) : ∃ R, Is.Perm (J ++ R) := by
  induction J generalizing Is with
  | nil => exact ⟨Is, List.Perm.refl _⟩
  | cons d J ih =>
    have hd := hs d List.mem_cons_self
    have hp := List.perm_cons_erase hd
    obtain ⟨R, hR⟩ := ih (Is := Is.erase d) (hI.erase d) (List.nodup_cons.1 hJ).2 (fun x hx => (List.mem_erase_of_ne (by
      rintro rfl; exact (List.nodup_cons.1 hJ).1 hx)).2 (hs x (List.mem_cons_of_mem _ hx)))
    exact ⟨R, hp.trans (hR.cons d)⟩

theorem Stage.heap {l : List Oper} {T : Nat} {ps : List (Nat × Post)} {listed : Array Bool} {a : Act} {w : World} (st : Stage l T ps N D B w0 L H listed a w) {J : List Fact} (hJn : (J.map (·.1)).Nodup)
    (hJ : ∀ q ∈ J, ∃ j : Nat, ps[j]? = some (q.1, Post.rel q.2) ∧ listed.getD j true = true) :
    ∃ (hσ : Nat → Hp) (Is R : List Nat) (X : Hp), Is.Nodup ∧ (∀ d, d ∈ Is ↔ ∃ (j : Nat) (q : Nat × Post), ps[j]? = some q ∧ q.1 = d ∧ listed.getD j true = true) ∧ (Is.flatMap hσ).Perm ((J.flatMap fun q => hσ q.1) ++ R.flatMap hσ) ∧
      SH B w0 w ((J.flatMap fun q => hσ q.1) ++ ((R.flatMap hσ ++ X) ++ H)) ∧ (∀ (j : Nat) q, ps[j]? = some q → listed.getD j true = true → ∃ v, a.tmps[q.1]? = some v ∧ q.2.ok v (hσ q.1)) := by
  obtain ⟨hσ, Is, X, h1, h2, h3, h4⟩ := st.done
  obtain ⟨R, hR⟩ := perm_pick h1 hJn (fun d hd => by
    obtain ⟨q, hq, rfl⟩ := List.mem_map.1 hd
    obtain ⟨j, hj, hlj⟩ := hJ q hq
    exact (h2 _).2 ⟨j, _, hj, rfl, hlj⟩)
  have hp : (Is.flatMap hσ).Perm ((J.flatMap fun q => hσ q.1) ++ R.flatMap hσ) := by
    have := hR.flatMap_right hσ
    rw [List.flatMap_append, List.flatMap_map] at this
    exact this
  refine ⟨hσ, Is, R, X, h1, h2, hp, h3.perm ?_, h4⟩
  have := (hp.append_right (X ++ H)).symm
  simpa [List.append_assoc] using this
end

/-! ### The check, read -/
structure DrawOK (l : List Oper) (T : Nat) : Prop where
  hT : T ≤ l.length
  plain : ∀ o ∈ l, plainOp o.op = true
  back : ∀ i, i < l.length → ∀ k ∈ depsL l.toArray i, k < i
  look : ∀ i j d o oj, i < T → j < T → l[j]? = some oj → oj.dst = some d → l[i]? = some o → d ∈ o.looksAt l.toArray → j ∈ depsL l.toArray i ∨ i ∈ reachN l.toArray l.length (depsL l.toArray j)
  dist : ∀ i j oi oj, i < T → j < T → i ≠ j → l[i]? = some oi → l[j]? = some oj → oi.dst ≠ oj.dst
  tail : ∀ i, T ≤ i → i < l.length → ∀ k, k < i → k ∈ reachN l.toArray l.length (depsL l.toArray i)

theorem drawOk_spec {l : List Oper} {T : Nat} (h : drawOk l T = true) : DrawOK l T := by
  simp only [drawOk, Bool.and_eq_true] at h
  obtain ⟨⟨⟨⟨h1, h2⟩, h3⟩, h4⟩, h5⟩ := h
  refine ⟨by simpa using h1, fun o ho => List.all_eq_true.1 h2 o ho, fun i hi k hk => ?_, fun i j d o oj hi hj hoj hd ho hlk => ?_, fun i j oi oj hi hj hne hoi hoj => ?_, fun i hi hil k hk => ?_⟩
  · have := List.all_eq_true.1 (List.all_eq_true.1 h3 i (List.mem_range.2 hi)) k hk
    simpa using this
  · have := List.all_eq_true.1 (List.all_eq_true.1 h4 i (List.mem_range.2 hi)) j (List.mem_range.2 hj)
    rw [Bool.and_eq_true] at this
    have h6 := this.1
    have e1 : ((l.take T).map (·.dst))[j]? = some (some d) := by
      rw [List.getElem?_map, List.getElem?_take, if_pos hj, hoj, Option.map_some, hd]
    simp only [e1, ho, Bool.or_eq_true, Bool.not_eq_true'] at h6
    rcases h6 with (h6 | h6) | h6
    · exfalso
      have : (o.looksAt l.toArray).contains d = true := List.contains_iff_mem.2 hlk
      rw [this] at h6; cases h6
    · exact .inl (List.contains_iff_mem.1 h6)
    · exact .inr (List.contains_iff_mem.1 h6)
  · have := List.all_eq_true.1 (List.all_eq_true.1 h4 i (List.mem_range.2 hi)) j (List.mem_range.2 hj)
    rw [Bool.and_eq_true] at this
    have h6 := this.2
    rw [Bool.or_eq_true] at h6
    rcases h6 with h6 | h6
    · exact absurd (Nat.eq_of_beq_eq_true h6) hne
    · intro e
      have e1 : ((l.take T).map (·.dst))[i]? = some oi.dst := by
        rw [List.getElem?_map, List.getElem?_take, if_pos hi, hoi, Option.map_some]
      have e2 : ((l.take T).map (·.dst))[j]? = some oj.dst := by
        rw [List.getElem?_map, List.getElem?_take, if_pos hj, hoj, Option.map_some]
      rw [e1, e2, e] at h6
      simp at h6
  · have := List.all_eq_true.1 h5 i (List.mem_range.2 hil)
    rw [Bool.or_eq_true] at this
    rcases this with h | h
    · have : i < T := by simpa using h
      omega
    · exact List.contains_iff_mem.1 (List.all_eq_true.1 h k (List.mem_range.2 hk))

/-- What is listed is closed under 'waits for'. -/
def Closed (ops : Array Oper) (listed : Array Bool) : Prop := ∀ i, i < listed.size → listed.getD i true = true → ∀ k ∈ depsL ops i, listed.getD k true = true
theorem reach_listed {ops : Array Oper} {listed : Array Bool} (hc : Closed ops listed) (hsz : listed.size = ops.size) : ∀ (n : Nat) (S : List Nat), (∀ k ∈ S, listed.getD k true = true) → ∀ k ∈ reachN ops n S, listed.getD k true = true := by
  intro n
  induction n with
  | zero => intro S h; exact h
  | succ n ih =>
    intro S h
    refine ih _ (fun k hk => ?_)
    rw [List.mem_eraseDups] at hk
    rcases List.mem_append.1 hk with hk | hk
    · exact h k hk
    · obtain ⟨i, hi, hki⟩ := List.mem_flatMap.1 hk
      rcases Nat.lt_or_ge i listed.size with hlt | hge
      · exact hc i hlt (h i hi) k hki
      · have : ops[i]? = none := by simp; omega
        simp [depsL, this] at hki

section
variable {r : Option Nat} {P : Program} {Q : Exit → Act → World → Prop} {N : Nat} {D : List Deferred} {B : Nat} {w0 : World} {L : Env} {H : Hp}
theorem reach_lt {l : List Oper} (hb : ∀ i, i < l.length → ∀ k ∈ depsL l.toArray i, k < i) : ∀ (n : Nat) (S : List Nat) (j : Nat), (∀ k ∈ S, k < j) → ∀ k ∈ reachN l.toArray n S, j ≤ l.length → k < j := by
  intro n
  induction n with
  | zero => intro S j h k hk _; exact h k hk
  | succ n ih =>
    intro S j h k hk hj
    refine ih _ j (fun x hx => ?_) k hk hj
    have hx' := List.mem_eraseDups.1 hx
    rcases List.mem_append.1 hx' with h1 | h1
    · exact h x h1
    · obtain ⟨y, hy, hxy⟩ := List.mem_flatMap.1 h1
      have h2 := h y hy
      have := hb y (by omega) x hxy
      omega
theorem ready_deps {l : List Oper} {listed : Array Bool} {i : Nat} (h : i ∈ Region.ready .any l.toArray listed) : listed.getD i true = false ∧ (∃ o, l[i]? = some o) ∧ ∀ k ∈ depsL l.toArray i, listed.getD k false = true := by
  obtain ⟨h1, o, ho, h2⟩ := mem_ready.1 h
  refine ⟨h1, ⟨o, by simpa using ho⟩, fun k hk => ?_⟩
  simp only [depsL, ho] at hk
  obtain ⟨e, he, rfl⟩ := List.mem_map.1 hk
  obtain ⟨he1, he2⟩ := List.mem_filter.1 he
  exact h2 e (Array.mem_toList_iff.1 he1) he2
theorem getD_true {listed : Array Bool} {k : Nat} (h : listed.getD k false = true) : listed.getD k true = true ∧ k < listed.size := by
  rcases Nat.lt_or_ge k listed.size with hlt | hge
  · refine ⟨?_, hlt⟩
    simp [hlt] at h ⊢; exact h
  · simp [Array.getElem?_eq_none hge] at h
theorem ready_nil {l : List Oper} {listed : Array Bool} (hsz : listed.size = l.length) (hb : ∀ i, i < l.length → ∀ k ∈ depsL l.toArray i, k < i) (h : Region.ready .any l.toArray listed = []) : ∀ i, i < l.length → listed.getD i true = true := by
  intro i
  induction i using Nat.strongRecOn with
  | _ i ih =>
    intro hi
    cases hc : listed.getD i true with
    | true => rfl
    | false =>
      exfalso
      have : i ∈ Region.ready .any l.toArray listed := by
        refine mem_ready.2 ⟨hc, l[i], by simp [hi], fun e he hbn => ?_⟩
        have hk : e.on ∈ depsL l.toArray i := by
          simp only [depsL, List.getElem?_toArray, List.getElem?_eq_getElem hi]
          exact List.mem_map.2 ⟨e, List.mem_filter.2 ⟨Array.mem_toList_iff.2 he, hbn⟩, rfl⟩
        have h1 := hb i hi _ hk
        have h2 := ih _ h1 (by omega)
        have h3 : e.on < listed.size := by omega
        simp [h3] at h2 ⊢; exact h2
      rw [h] at this; cases this

theorem set_getD {listed : Array Bool} {i j : Nat} : (listed.setIfInBounds i true).getD j true = if i = j then true else listed.getD j true := by
  by_cases h : i = j
  · subst h
    rcases Nat.lt_or_ge i listed.size with hlt | hge
    · simp [hlt]
    · simp [Array.getElem?_eq_none (show (listed.setIfInBounds i true).size ≤ i by simpa using hge)]
  · rw [if_neg h, getD_set_ne true h]
theorem Closed.set {ops : Array Oper} {listed : Array Bool} {i : Nat} (h : Closed ops listed) (hd : ∀ k ∈ depsL ops i, listed.getD k true = true) : Closed ops (listed.setIfInBounds i true) := by
  intro j hj hlj k hk
  rw [set_getD] at hlj ⊢
  split
  · rfl
  · by_cases e : i = j
    · subst e; exact hd k hk
    · rw [if_neg e] at hlj
      exact h j (by simpa using hj) hlj k hk

/-- The tail: one order alone. -/
theorem wpAny_tail {l : List Oper} {T : Nat} (ok : DrawOK l T) : ∀ (fuel k : Nat) (listed : Array Bool) (a : Act) (w : World), listed.size = l.length → (∀ i, i < l.length → listed.getD i true = decide (i < k)) → T ≤ k → fuel + k = l.length →
    wpListIn (FW r) 0 P l.toArray Q (l.drop k) a w → wpAnyIn (FW r) 0 P .any l.toArray Q fuel listed a w := by
  intro fuel
  induction fuel with
  | zero =>
    intro k listed a w hsz hl hT hk h
    have : k = l.length := by omega
    subst this
    rw [List.drop_length] at h
    refine ⟨List.eq_nil_iff_forall_not_mem.2 fun i hi => ?_, h⟩
    obtain ⟨h1, ⟨o, ho⟩, _⟩ := ready_deps hi
    have hlt : i < l.length := (List.getElem?_eq_some_iff.1 ho).1
    rw [hl i hlt] at h1
    simp at h1; omega
  | succ fuel ih =>
    intro k listed a w hsz hl hT hk h
    have hclosed : Closed l.toArray listed := by
      intro i hi hli j hj
      have hi' : i < l.length := by omega
      have h1 := ok.back i hi' j hj
      rw [hl j (by omega)]
      rw [hl i hi'] at hli
      simp at hli ⊢; omega
    refine ⟨fun hnil => ?_, fun i hi => ?_⟩
    · have := ready_nil hsz ok.back hnil k (by omega)
      rw [hl k (by omega)] at this
      simp at this
    · obtain ⟨h1, ⟨o, ho⟩, h2⟩ := ready_deps hi
      have hlt : i < l.length := (List.getElem?_eq_some_iff.1 ho).1
      rw [hl i hlt] at h1
      have hge : k ≤ i := by simpa using h1
      have hik : i = k := by
        rcases Nat.eq_or_lt_of_le hge with h | h
        · exact h.symm
        · have h3 := ok.tail i (by omega) hlt k h
          have h4 := reach_listed hclosed (by simpa using hsz) l.length (depsL l.toArray i) (fun j hj => (getD_true (h2 j hj)).1) k h3
          rw [hl k (by omega)] at h4
          simp at h4
      subst hik
      have hdrop : l.drop i = o :: l.drop (i + 1) := by
        rw [List.drop_eq_getElem_cons hlt]
        congr 1
        rw [List.getElem?_eq_getElem hlt] at ho
        exact Option.some.inj ho
      rw [hdrop] at h
      have next : ∀ a w, wpListIn (FW r) 0 P l.toArray Q (l.drop (i + 1)) a w → wpAnyIn (FW r) 0 P .any l.toArray Q fuel (listed.setIfInBounds i true) a w := fun a w h => by
        refine ih (i + 1) _ a w (by simpa using hsz) (fun j hj => ?_) (by omega) (by omega) h
        rw [set_getD, hl j hj]
        by_cases e : i = j
        · subst e; simp
        · rw [if_neg e]; congr 1; rw [eq_iff_iff]; omega
      unfold wpOpIn
      simp only [List.getElem?_toArray, ho]
      unfold wpListIn at h
      split
      · rename_i hw
        rw [if_pos hw] at h
        exact Oper.wpIn_mono next h
      · rename_i hw
        rw [if_neg hw] at h
        exact ⟨h.1, next _ _ h.2⟩

theorem wanted_congr {ops : Array Oper} {o : Oper} {a a' : Act} (h : ∀ t ∈ o.looksAt ops, a.tmps.getD t undef = a'.tmps.getD t undef) : Region.wanted o (yielded ops a.tmps) = Region.wanted o (yielded ops a'.tmps) := by
  unfold Region.wanted
  cases hg : o.guard with
  | none => rfl
  | some g =>
    obtain ⟨j, b⟩ := g
    have : yielded ops a.tmps j = yielded ops a'.tmps j := by
      unfold yielded
      cases hd : (ops[j]?).bind (·.dst) with
      | none => rfl
      | some d =>
        have := h d (List.mem_append_right _ (by simp [hg, hd]))
        simp only [Array.getD_eq_getD_getElem?] at this
        simp only [Option.bind_some]
        cases h1 : a.tmps[d]? <;> cases h2 : a'.tmps[d]? <;> simp only [h1, h2, Option.getD_some, Option.getD_none] at this
        · rfl
        · rw [← this]; rfl
        · rw [this]; rfl
        · rw [this]
    simp only [this]
theorem eval_congr {ops : Array Oper} {o : Oper} {a a' : Act} (h : ∀ t ∈ o.looksAt ops, a.tmps.getD t undef = a'.tmps.getD t undef) : ∀ x ∈ o.op.operands, a.eval x = a'.eval x := by
  intro x hx
  cases x with
  | tmp t => exact h t (List.mem_append_left _ (List.mem_filterMap.2 ⟨.tmp t, Array.mem_toList_iff.2 hx, rfl⟩))
  | _ => rfl

theorem flatMap_congr' {Is : List Nat} {f g : Nat → Hp} (h : ∀ d ∈ Is, f d = g d) : Is.flatMap f = Is.flatMap g := by
  induction Is with
  | nil => rfl
  | cons d Is ih => rw [List.flatMap_cons, List.flatMap_cons, h d List.mem_cons_self, ih (fun x hx => h x (List.mem_cons_of_mem _ hx))]

/-- All ahead of the tail is done. -/
theorem wpAny_stage_done {l : List Oper} {T : Nat} {ps : List (Nat × Post)} (ok : DrawOK l T) (hlen : T = ps.length)
    (hidx : ∀ (i : Nat) q, ps[i]? = some q → i < T) (hnodup : (ps.map (·.1)).Nodup)
    (hK : AllF (fsA [] ps) fun EF G => TL r P Q N D B w0 (EF ++ envA L ps) (G ++ H) l.toArray (l.drop T)) {listed : Array Bool} {a : Act} {w : World} (hsz : listed.size = l.length)
    (hall : ∀ i, i < T → listed.getD i true = true) (hto : ∀ i, T ≤ i → i < l.length → listed.getD i true = false) (st : Stage l T ps N D B w0 L H listed a w) (fuel : Nat) (hf : fuel + T = l.length) :
    wpAnyIn (FW r) 0 P .any l.toArray Q fuel listed a w := by
  refine wpAny_tail ok fuel T listed a w hsz (fun i hi => ?_) (Nat.le_refl _) hf ?_
  · rcases Nat.lt_or_ge i T with h | h
    · rw [hall i h]; simp [h]
    · rw [hto i h hi]; simp; omega
  · have hJ : ∀ q ∈ fsA [] ps, ∃ j : Nat, ps[j]? = some (q.1, Post.rel q.2) ∧ listed.getD j true = true := fun q hq => by
      rcases (mem_fsA _ _ _).1 hq with h | ⟨j, hj⟩
      · cases h
      · exact ⟨j, hj, hall j (hidx j _ hj)⟩
    have hJn : ((fsA [] ps).map (·.1)).Nodup := fsA_nodup ps [] (by simpa using hnodup)
    obtain ⟨hσ, Is, R, X, _, _, _, hsh, hdone⟩ := st.heap hJn hJ
    have := AllF_inst (fun k => a.tmps.getD k undef) hσ _ _ hK (fun q hq => by
      obtain ⟨j, hj, hlj⟩ := hJ q hq
      obtain ⟨v, hv, hok⟩ := hdone j _ hj hlj
      have e : a.tmps.getD q.1 undef = v := by simp only at hv; simp [Array.getD_eq_getD_getElem?, hv]
      show q.2 (a.tmps.getD q.1 undef) _
      rw [e]; exact hok)
    refine this a w ⟨st.size, st.defers, fun t v h => ?_⟩ (hsh.sub ?_)
    · have hps : ps.take T = ps := by rw [hlen]; exact List.take_length
      refine st.lookup (i := T) (J := fsA [] ps) (fun j q hj _ => .inl ⟨hidx j q hj, hall j (hidx j q hj)⟩) hJ (fun q hq _ => by rw [hps] at hq; exact hq) (by rw [hps]; exact h)
    · exact (List.sublist_append_right _ H).append_left _

/-- The stages of a drawn order, to its tail. -/
theorem wpAny_stage {l : List Oper} {T : Nat} {ps : List (Nat × Post)} (ok : DrawOK l T) (hLN : ∀ k v, lk L k = some v → k < N) (hlen : T = ps.length)
    (hps : ∀ i o, (l.take T)[i]? = some o → ∃ q, ps[i]? = some q ∧ o.dst = some q.1 ∧ q.1 < N ∧ ObR r P N D B w0 H l.toArray o q (envA L (ps.take i)) (fsA [] (ps.take i)))
    (hK : AllF (fsA [] ps) fun EF G => TL r P Q N D B w0 (EF ++ envA L ps) (G ++ H) l.toArray (l.drop T)) :
    ∀ (fuel : Nat) (listed : Array Bool) (a : Act) (w : World), listed.size = l.length → (listed.toList.count false) = fuel → Closed l.toArray listed → (∀ i, T ≤ i → i < l.length → listed.getD i true = false) →
      Stage l T ps N D B w0 L H listed a w → wpAnyIn (FW r) 0 P .any l.toArray Q fuel listed a w := by
  have hpl : ∀ i, i < T → ∃ o q, l[i]? = some o ∧ ps[i]? = some q ∧ o.dst = some q.1 ∧ q.1 < N ∧ ObR r P N D B w0 H l.toArray o q (envA L (ps.take i)) (fsA [] (ps.take i)) := by
    intro i hi
    have hil : i < l.length := Nat.lt_of_lt_of_le hi ok.hT
    have : (l.take T)[i]? = some l[i] := by rw [List.getElem?_take, if_pos hi, List.getElem?_eq_getElem hil]
    obtain ⟨q, h1, h2, h3, h4⟩ := hps i _ this
    exact ⟨l[i], q, List.getElem?_eq_getElem hil, h1, h2, h3, h4⟩
  have hidx : ∀ (i : Nat) q, ps[i]? = some q → i < T := fun i q h => by rw [hlen]; exact (List.getElem?_eq_some_iff.1 h).1
  have huniq : ∀ (i j : Nat) q p, ps[i]? = some q → ps[j]? = some p → q.1 = p.1 → i = j := by
    intro i j q p hi hj e
    by_cases hne : i = j
    · exact hne
    · obtain ⟨oi, qi, h1, h2, h3, _⟩ := hpl i (hidx i q hi)
      obtain ⟨oj, qj, h4, h5, h6, _⟩ := hpl j (hidx j p hj)
      rw [hi] at h2; rw [hj] at h5
      cases h2; cases h5
      exact absurd (by rw [h3, h6, e]) (ok.dist i j oi oj (hidx i _ hi) (hidx j _ hj) hne h1 h4)
  have hnodup : (ps.map (·.1)).Nodup := by
    rw [List.nodup_iff_pairwise_ne, List.pairwise_iff_getElem]
    intro i j hi hj hij e
    rw [List.getElem_map, List.getElem_map] at e
    have hi' : i < ps.length := by simpa using hi
    have hj' : j < ps.length := by simpa using hj
    have := huniq i j _ _ (List.getElem?_eq_getElem hi') (List.getElem?_eq_getElem hj') e
    omega
  intro fuel
  induction fuel with
  | zero =>
    intro listed a w hsz hcnt hcl hto st
    exact (wpAny_stage_done ok hlen hidx hnodup hK hsz (fun i hi => by
      cases hc : listed.getD i true with
      | true => rfl
      | false =>
        exfalso
        have hlt : i < listed.size := by have := ok.hT; omega
        have : false ∈ listed.toList := by
          simp [hlt] at hc
          rw [← hc]; exact Array.getElem_mem_toList _
        exact absurd hcnt (by have := List.count_pos_iff.2 this; omega)) hto st 0 (by
      have : T = l.length := by
        rcases Nat.lt_or_ge T l.length with h | h
        · exfalso
          have h1 := hto T (Nat.le_refl _) h
          have hlt : T < listed.size := by omega
          have : false ∈ listed.toList := by
            simp [hlt] at h1
            rw [← h1]; exact Array.getElem_mem_toList _
          exact absurd hcnt (by have := List.count_pos_iff.2 this; omega)
        · have := ok.hT; omega
      omega))
  | succ fuel ih =>
    intro listed a w hsz hcnt hcl hto st
    by_cases hall : ∀ i, i < T → listed.getD i true = true
    · -- the tail begins
      have hf : fuel + 1 + T = l.length := by
        have h1 : ∀ (m : List Bool) (T : Nat), T ≤ m.length → (∀ i, i < T → m[i]? = some true) → (∀ i, T ≤ i → i < m.length → m[i]? = some false) → m.count false + T = m.length := by
          intro m
          induction m with
          | nil => intro T h _ _; simp at h; simp [h]
          | cons x m ihm =>
            intro T hT ht hf
            cases T with
            | zero =>
              have hx : x = false := by have := hf 0 (Nat.le_refl _) (by simp); simpa using this
              have := ihm 0 (Nat.zero_le _) (fun i hi => by omega) (fun i _ hi => by have := hf (i + 1) (by omega) (by simp; omega); simpa using this)
              subst hx
              simp at this ⊢; omega
            | succ T =>
              have hx : x = true := by have := ht 0 (by omega); simpa using this
              have := ihm T (by simpa using hT) (fun i hi => by have := ht (i + 1) (by omega); simpa using this) (fun i hi hil => by have := hf (i + 1) (by omega) (by simp; omega); simpa using this)
              subst hx
              simp at this ⊢; omega
        have := h1 listed.toList T (by have := ok.hT; simp; omega) (fun i hi => by
          have hlt : i < listed.size := by have := ok.hT; omega
          have := hall i hi
          simp [hlt] at this ⊢; exact this) (fun i hi hil => by
          have hlt : i < listed.size := by simpa using hil
          have := hto i hi (by omega)
          simp [hlt] at this ⊢; exact this)
        rw [hcnt] at this
        simp at this; omega
      exact wpAny_stage_done ok hlen hidx hnodup hK hsz hall hto st _ hf
    · have hnot : ∃ i, i < T ∧ listed.getD i true = false := by
        refine Classical.byContradiction fun hn => hall fun i hi => ?_
        cases hc : listed.getD i true with
        | true => rfl
        | false => exact absurd ⟨i, hi, hc⟩ hn
      refine ⟨fun hnil => ?_, fun i hi => ?_⟩
      · obtain ⟨i, hiT, hc⟩ := hnot
        have := ready_nil hsz ok.back hnil i (by have := ok.hT; omega)
        rw [this] at hc; cases hc
      · obtain ⟨hun, ⟨o, ho⟩, hdeps⟩ := ready_deps hi
        have hil : i < l.length := (List.getElem?_eq_some_iff.1 ho).1
        have hiT : i < T := by
          rcases Nat.lt_or_ge i T with h | h
          · exact h
          · exfalso
            obtain ⟨j, hjT, hc⟩ := hnot
            have h3 := ok.tail i h hil j (by omega)
            have h4 := reach_listed hcl (by simpa using hsz) l.length (depsL l.toArray i) (fun k hk => (getD_true (hdeps k hk)).1) j h3
            rw [h4] at hc; cases hc
        obtain ⟨o', q, ho', hq, hdst, hdN, hob⟩ := hpl i hiT
        rw [ho] at ho'
        cases ho'
        -- what it looks at has been written in turn
        have hturn : ∀ t ∈ o.looksAt l.toArray, ∀ (j : Nat) p, ps[j]? = some p → p.1 = t → (j < i ∧ listed.getD j true = true) ∨ (i < j ∧ listed.getD j true = false) := by
          intro t ht j p hp hpt
          obtain ⟨oj, pj, h1, h2, h3, _⟩ := hpl j (hidx j p hp)
          rw [hp] at h2
          cases h2
          have hj := ok.look i j t o oj hiT (hidx j p hp) h1 (by rw [h3, hpt]) ho ht
          rcases hj with hj | hj
          · exact .inl ⟨ok.back i hil j hj, (getD_true (hdeps j hj)).1⟩
          · have hjl : j < l.length := Nat.lt_of_lt_of_le (hidx j p hp) ok.hT
            refine .inr ⟨reach_lt ok.back l.length _ j (fun k hk => ok.back j hjl k hk) i hj (Nat.le_of_lt hjl), ?_⟩
            cases hlj : listed.getD j true with
            | false => rfl
            | true =>
              have h4 := reach_listed hcl (by simpa using hsz) l.length (depsL l.toArray j) (fun k hk => hcl j (by omega) hlj k hk) i hj
              rw [h4] at hun; cases hun
        -- the facts that it needs
        have hJ : ∀ f ∈ fltF l.toArray o (fsA [] (ps.take i)), ∃ j : Nat, ps[j]? = some (f.1, Post.rel f.2) ∧ listed.getD j true = true := by
          intro f hf
          obtain ⟨h1, h2⟩ := List.mem_filter.1 hf
          rcases (mem_fsA _ _ _).1 h1 with h | ⟨j, hj⟩
          · cases h
          · rw [List.getElem?_take] at hj
            split at hj
            · rename_i hji
              refine ⟨j, hj, ?_⟩
              rcases hturn f.1 (List.contains_iff_mem.1 h2) j _ hj rfl with h | h
              · exact h.2
              · omega
            · cases hj
        have hJn : ((fltF l.toArray o (fsA [] (ps.take i))).map (·.1)).Nodup := by
          have h1 : ((fsA [] (ps.take i)).map (·.1)).Nodup := fsA_nodup _ [] (by
            simp only [List.map_nil, List.nil_append]
            rw [List.map_take]
            exact (List.take_sublist _ _).nodup hnodup)
          exact ((List.filter_sublist (l := fsA [] (ps.take i)) (p := fun q => (o.looksAt l.toArray).contains q.1)).map (fun q : Fact => q.1)).nodup h1
        obtain ⟨hσ, Is, R, X, hIn, hIs, hperm, hsh, hdone⟩ := st.heap hJn hJ
        have hva : ∀ (j : Nat) p, ps[j]? = some p → listed.getD j true = true → ∃ v, a.tmps[p.1]? = some v ∧ a.tmps.getD p.1 undef = v ∧ p.2.ok v (hσ p.1) := by
          intro j p hp hlj
          obtain ⟨v, h1, h2⟩ := hdone j p hp hlj
          exact ⟨v, h1, by simp [Array.getD_eq_getD_getElem?, h1], h2⟩
        have hTL := AllF_inst (fun k => a.tmps.getD k undef) hσ _ _ hob (fun f hf => by
          obtain ⟨j, hj, hlj⟩ := hJ f hf
          obtain ⟨v, _, e, hok⟩ := hva j _ hj hlj
          show f.2 (a.tmps.getD f.1 undef) _
          rw [show a.tmps.getD f.1 undef = v from e]; exact hok) (R.flatMap hσ ++ X)
        -- the frame of its own walk
        obtain ⟨EE, hEE⟩ : ∃ EE, EE = (List.map (fun f : Fact => (f.1, a.tmps.getD f.1 undef)) (fltF l.toArray o (fsA [] (ps.take i)))) ++ envA L (ps.take i) := ⟨_, rfl⟩
        rw [← hEE] at hTL
        have hkN : ∀ k v, lk EE k = some v → k < N := by
          intro k v h
          rw [hEE, lk_append] at h
          cases hl : lk (List.map (fun f : Fact => (f.1, a.tmps.getD f.1 undef)) (fltF l.toArray o (fsA [] (ps.take i)))) k with
          | some u =>
            obtain ⟨_, f, hf, rfl⟩ := lk_map_some (va := fun k => a.tmps.getD k undef) hl
            obtain ⟨j, hj, _⟩ := hJ f hf
            obtain ⟨_, p, _, h2, _, h4, _⟩ := hpl j (hidx j _ hj)
            rw [hj] at h2; cases h2; exact h4
          | none =>
            rw [hl] at h
            rcases lk_envA _ _ _ _ h with ⟨j, c, h1, _⟩ | ⟨h1, _⟩
            · rw [List.getElem?_take] at h1
              split at h1
              · obtain ⟨_, p, _, h2, _, h4, _⟩ := hpl j (hidx j _ h1)
                rw [h1] at h2; cases h2; exact h4
              · cases h1
            · exact hLN k v h1
        let b : Act := { tmps := Array.ofFn (n := N) (fun k => match lk EE k with | some v => v | none => a.tmps.getD k undef), defers := a.defers }
        have hbget : ∀ k, k < N → b.tmps[k]? = some (match lk EE k with | some v => v | none => a.tmps.getD k undef) := by
          intro k hk
          simp [b, hk]
        have hFr : Fr N D EE b := ⟨by simp [b], st.defers, fun k v hk => by rw [hbget k (hkN k v hk), hk]⟩
        have hagree : ∀ t ∈ o.looksAt l.toArray, b.tmps.getD t undef = a.tmps.getD t undef := by
          intro t ht
          rcases Nat.lt_or_ge t N with htN | htN
          · rw [Array.getD_eq_getD_getElem?, hbget t htN]
            cases hl : lk EE t with
            | none => rfl
            | some v =>
              have := st.lookup (i := i) (J := fltF l.toArray o (fsA [] (ps.take i))) (t := t) (v := v) (hturn t ht) hJ
                (fun f hf hft => List.mem_filter.2 ⟨hf, List.contains_iff_mem.2 (hft ▸ ht)⟩) (by rw [hEE] at hl; exact hl)
              simp [this]
          · have h1 : b.tmps[t]? = none := by simp [b]; exact htN
            have h2 : a.tmps[t]? = none := by simp [st.size]; exact htN
            simp [Array.getD_eq_getD_getElem?, h1, h2]
        have hw0 := hTL b w hFr hsh
        -- what comes of it
        have hnext : ∀ (v : Value) (w' : World) (h : Hp), q.2.ok v h → SH B w0 w' (h ++ ((fltF l.toArray o (fsA [] (ps.take i))).flatMap (fun q => hσ q.1) ++ ((R.flatMap hσ ++ X) ++ H))) →
            wpAnyIn (FW r) 0 P .any l.toArray Q fuel (listed.setIfInBounds i true) (a.put o.dst v) w' := by
          intro v w' h hok hsh'
          have hilt : i < listed.size := by omega
          refine ih _ _ _ (by simpa using hsz) ?_ (hcl.set fun k hk => (getD_true (hdeps k hk)).1) (fun j hj hjl => ?_) ?_
          · have e : (listed.setIfInBounds i true).toList = listed.toList.set i true := by simp
            rw [e, List.count_set (by simpa using hilt)]
            have : listed.toList[i]'(by simpa using hilt) = false := by simp [hilt] at hun; simpa using hun
            simp [this, hcnt]
          · rw [set_getD, if_neg (by omega)]; exact hto j hj hjl
          · have hq1 : ∀ t, t ≠ q.1 → (a.put o.dst v).tmps[t]? = a.tmps[t]? := by
              intro t ht
              rw [hdst]
              simp [Act.put, Array.getElem?_setIfInBounds_ne (Ne.symm ht)]
            have hq2 : (a.put o.dst v).tmps[q.1]? = some v := by
              rw [hdst]
              simp [Act.put, st.size, hdN]
            refine ⟨by rw [hdst]; simp [Act.put, st.size], by rw [hdst]; exact st.defers, fun t u ht hno => ?_, ?_⟩
            · have hne : t ≠ q.1 := by
                rintro rfl
                have := hno i q hq rfl
                rw [set_getD, if_pos rfl] at this
                cases this
              rw [hq1 t hne]
              refine st.base t u ht (fun j p hp hpt => ?_)
              have := hno j p hp hpt
              rw [set_getD] at this
              split at this
              · cases this
              · exact this
            · have hqI : q.1 ∉ Is := by
                intro hm
                obtain ⟨j, p, hp, hpq, hlj⟩ := (hIs _).1 hm
                have := huniq j i p q hp hq hpq
                subst this
                rw [hlj] at hun; cases hun
              refine ⟨fun d => if d = q.1 then h else hσ d, q.1 :: Is, X, List.nodup_cons.2 ⟨hqI, hIn⟩, fun d => ?_, ?_, fun j p hp hlj => ?_⟩
              · rw [List.mem_cons, hIs]
                constructor
                · rintro (rfl | ⟨j, p, hp, hpd, hlj⟩)
                  · exact ⟨i, q, hq, rfl, by rw [set_getD, if_pos rfl]⟩
                  · refine ⟨j, p, hp, hpd, ?_⟩
                    rw [set_getD]; split
                    · rfl
                    · exact hlj
                · rintro ⟨j, p, hp, hpd, hlj⟩
                  by_cases e : i = j
                  · subst e
                    rw [hq] at hp; cases hp
                    exact .inl hpd.symm
                  · rw [set_getD, if_neg e] at hlj
                    exact .inr ⟨j, p, hp, hpd, hlj⟩
              · refine hsh'.perm ?_
                rw [List.flatMap_cons, if_pos rfl, flatMap_congr' (g := hσ) (fun d hd => by
                  have hne : d ≠ q.1 := by rintro rfl; exact hqI hd
                  rw [if_neg hne])]
                have := (hperm.append_right (X ++ H))
                rw [List.append_assoc]
                refine List.Perm.append_left h ?_
                simpa [List.append_assoc] using this
              · by_cases e : i = j
                · subst e
                  rw [hq] at hp; cases hp
                  exact ⟨v, hq2, by simpa using hok⟩
                · rw [set_getD, if_neg e] at hlj
                  obtain ⟨u, h1, h2⟩ := hdone j p hp hlj
                  have hne : p.1 ≠ q.1 := fun e' => e (huniq i j q p hq hp e'.symm)
                  exact ⟨u, by rw [hq1 _ hne]; exact h1, by simpa [hne] using h2⟩
        have hread : ∀ (v : Value) (w' : World), wpListIn (FW r) 0 P l.toArray (QR D B w0 q.1 q.2.ok ((fltF l.toArray o (fsA [] (ps.take i))).flatMap (fun q => hσ q.1) ++ ((R.flatMap hσ ++ X) ++ H))) [] (b.put o.dst v) w' →
            wpAnyIn (FW r) 0 P .any l.toArray Q fuel (listed.setIfInBounds i true) (a.put o.dst v) w' := by
          rintro v w' ⟨_, _, v', h, hv', hok, hsh'⟩
          have : v' = v := by
            rw [hdst] at hv'
            have hsz' : b.tmps.size = N := by simp [b]
            simp [Act.put, hsz', hdN] at hv'
            exact hv'.symm
          subst this
          exact hnext v' w' h hok hsh'
        have hplain := ok.plain o (List.mem_of_getElem? ho)
        have hnd : ∀ c, o.op ≠ .defer c := fun c e => by rw [e] at hplain; cases hplain
        have hns : ∀ cs bb, o.op ≠ .select cs bb := fun c bb e => by rw [e] at hplain; cases hplain
        have hexec : execOp b.eval o = execOp a.eval o := execOp_congr o hns (eval_congr hagree)
        unfold wpOpIn
        simp only [List.getElem?_toArray, ho]
        unfold wpListIn at hw0
        rw [wanted_congr hagree] at hw0
        split
        · rename_i hwant
          rw [if_pos hwant] at hw0
          refine ⟨fun _ _ => trivial, ?_⟩
          have h2 := hw0.2
          rw [semAt_any hnd, hexec] at h2
          rw [semAt_any hnd]
          generalize (execOp a.eval o).run P w = res at *
          cases res with
          | ok x w' =>
            cases x <;> simp only [Oper.uponIn] at h2 ⊢
            case value v => exact hread v w' h2
            case skip => exact hread _ w' h2
            case enter f args =>
              refine ⟨h2.1, CallsIn.mono h2.2 fun e w'' he => ?_⟩
              cases e with
              | returned v => exact hread v w'' he
              | panicked ch => cases he.1
              | outgrown => obtain ⟨_, _, he⟩ := he; cases he.1
            case row row args => exact ⟨h2.1, RowsIn.mono h2.2 fun v w'' he => hread v w'' he⟩
            case round lp f tm asg bd =>
              refine ⟨h2.1, RoundIn.mono h2.2 fun e w'' he => ?_⟩
              cases e with
              | returned v => exact hread v w'' he
              | panicked ch => cases he.1
              | outgrown => obtain ⟨_, _, he⟩ := he; cases he.1
            case defer dd =>
              exfalso
              have h3 : dd :: b.defers = D := by
                have := h2.2.1
                rw [hdst] at this
                exact this
              have h4 : b.defers = D := hFr.defers
              rw [h4] at h3
              have := congrArg List.length h3
              simp at this
          | halt x w' =>
            cases x <;> simp only [Oper.uponIn] at h2 ⊢
            case panic v => cases h2.1
        · rename_i hwant
          rw [if_neg hwant] at hw0
          exact ⟨fun _ _ => trivial, hread _ _ hw0.2⟩

/-- **A region that draws its order**: T operations ahead of the tail, walked each from what it looks at ('PG'); then the tail. -/
theorem TC_draw {id : Nat} {l : List Oper} (T : Nat) {ps : List (Nat × Post)} (hc : drawOk l T = true) (hm : P.follows .mixedOrders = true) (hPG : PG r P N D B w0 H l.toArray (l.take T) L [] ps)
    (hK : AllF (fsA [] ps) fun EF G => TL r P Q N D B w0 (EF ++ envA L ps) (G ++ H) l.toArray (l.drop T)) : TC r P Q N D B w0 L H (.region id l.toArray true) := by
  intro a w hf hs
  have ok := drawOk_spec hc
  obtain ⟨hlen, hps⟩ := PG_spec hPG
  have hT : T = ps.length := by rw [← hlen, List.length_take]; have := ok.hT; omega
  refine wpIn_region_any hm ?_
  have hrep : ∀ i, i < l.length → (Array.replicate l.toArray.size false).getD i true = false := fun i hi => by simp [hi]
  refine wpAny_stage ok (fun k v h => ?_) hT hps hK _ _ a _ (by simp) (by simp) ?_ (fun i _ hi => by simpa using hrep i hi) ⟨hf.size, hf.defers, fun t v h _ => hf.get t v h, fun _ => [], [], [], List.nodup_nil, fun d => ?_, ?_, fun j q hj hl => ?_⟩
  · have := (Array.getElem?_eq_some_iff.1 (hf.get k v h)).1
    rw [hf.size] at this; exact this
  · intro i hi hli
    exfalso
    have h1 : i < l.length := by simpa using hi
    rw [hrep i h1] at hli; cases hli
  · constructor
    · intro h; cases h
    · rintro ⟨j, q, hj, _, hl⟩
      exfalso
      have h1 : j < l.length := by have := (List.getElem?_eq_some_iff.1 hj).1; have := ok.hT; omega
      rw [hrep j h1] at hl; cases hl
  · exact hs.drew
  · exfalso
    have h1 : j < l.length := by have := (List.getElem?_eq_some_iff.1 hj).1; have := ok.hT; omega
    rw [hrep j h1] at hl; cases hl

theorem TQ_QV {d : Nat} {c : Value} {H1 H' : Hp} (hl : lk L d = some c) (hH : ∀ w, SH B w0 w H1 → SH B w0 w H') : TQ (QV D B w0 d c H') N D B w0 L H1 .normal :=
  fun _ _ hf hs => ⟨rfl, hf.defers, hf.get _ _ hl, hH _ hs⟩
theorem TQ_QR {d : Nat} {Φ : Value → Hp → Prop} {v : Value} {h H1 H' : Hp} (hl : lk L d = some v) (hΦ : Φ v h) (hH : ∀ w, SH B w0 w H1 → SH B w0 w (h ++ H')) : TQ (QR D B w0 d Φ H') N D B w0 L H1 .normal :=
  fun _ _ hf hs => ⟨rfl, hf.defers, v, h, hf.get _ _ hl, hΦ, hH _ hs⟩
/-- A new variable laid ahead of the tail. -/
def isNew (B : Nat) (z : List Value) (t : TypeId) : Value → Hp → Prop := fun v h => ∃ b, B ≤ b ∧ v = .pointer (some ⟨b, 0, none⟩) ∧ h = [(b, .cells z t)]
end
end Go.Eng
/- The engine, part 7: comparing structs of numbers. -/
namespace Go.Eng
open Go Go.RowKit

/-- The numbers of a row of cells. -/
def intsOf : List Value → Option (List Int)
  | [] => some []
  | v :: vs => match v with
    | .int .i64 m => match intsOf vs with
      | some ms => some (m :: ms)
      | none => none
    | _ => none
def encIs (l : List Int) : List Value := l.map (Value.int .i64)
theorem intsOf_some : ∀ {vs : List Value} {ms : List Int}, intsOf vs = some ms → vs = encIs ms := by
  intro vs
  induction vs with
  | nil => intro ms h; simp [intsOf] at h; subst h; rfl
  | cons v vs ih =>
    intro ms h
    unfold intsOf at h
    split at h
    · split at h
      · rename_i hk; cases h; rw [ih hk]; rfl
      · cases h
    · cases h

/-- '==' on a type whose cells are n numbers. -/
class EqP (P : Program) (t : TypeId) (lv n : outParam Nat) : Prop where
  run : ∀ (d : Nat) (xs ys : List Int) (v u : Value) (w : World), lv ≤ d → xs.length = n → ys.length = n →
    (∃ ag, TyP P t n ag (List.replicate n (.int .i64 0)) ∧ v = (if ag then .agg (encIs xs).toArray else (encIs xs).headD undef) ∧ u = (if ag then .agg (encIs ys).toArray else (encIs ys).headD undef)) →
    (Op.equalIn d t v u).run P w = .ok (decide (xs = ys)) w
class EqG (P : Program) (t : TypeId) : Prop where
  guard : P.eqGuardType P.depth t = false

theorem EqP.int {P : Program} {t : TypeId} [hi : IntP P t .i64] [ht : TyP P t 1 false [.int .i64 0]] : EqP P t 1 1 := ⟨by
  intro d xs ys v u w hd ha hb ⟨ag, hag, hv, hu⟩
  have : ag = false := by
    have h1 := hag.ag w
    rw [ht.ag w] at h1
    simpa using h1.symm
  subst this
  obtain ⟨a, rfl⟩ := List.length_eq_one_iff.1 ha
  obtain ⟨b, rfl⟩ := List.length_eq_one_iff.1 hb
  obtain ⟨d, rfl⟩ : ∃ e, d = e + 1 := ⟨d - 1, by omega⟩
  subst hv hu
  simp only [encIs, List.map_cons, List.map_nil, List.headD_cons, Bool.false_eq_true, if_false]
  rw [run_equalIn_int w d t .i64 .i64 a b hi.u]
  simp [beq_dec]⟩

inductive FsP (P : Program) (lv : Nat) : Nat → List Field → Nat → Prop
  | nil {off} : FsP P lv off [] 0
  | cons {off f fs k n ag lv'} : (f.name == "_") = false → f.offset = off → TyP P f.type k ag (List.replicate k (.int .i64 0)) → EqP P f.type lv' k → Nat.ble lv' lv = true → (ag || k == 1) = true → FsP P lv (off + k) fs n → FsP P lv off (f :: fs) (k + n)

theorem take_enc {l : List Int} {o k : Nat} : ((encIs l).drop o).take k = encIs ((l.drop o).take k) := by simp [encIs, List.map_take, List.map_drop]
theorem run_part_ints {P : Program} {t : TypeId} {k : Nat} {ag : Bool} [ht : TyP P t k ag (List.replicate k (.int .i64 0))] (w : World) {l : List Int} {off : Nat} (h : off + k ≤ l.length) (hk : ag = false → k = 1) :
    (part t (encIs l).toArray off).run P w = .ok (if ag then .agg (encIs ((l.drop off).take k)).toArray else (encIs ((l.drop off).take k)).headD undef) w := by
  obtain ⟨i, v, hi, hs, _, _⟩ := ht.info
  cases ag with
  | true =>
    have hsz : (Go.sizeOf t).run P w = .ok k w := by rw [run_sizeOf w hi]; simp [Program.cellsOf, hi, hs]
    simp only [part, Sem.run_bind, ht.ag w, Result.andThen_ok, if_true, hsz, Sem.run_pure]
    congr 2
    apply Array.ext'
    rw [Array.toList_extract]
    simp [List.extract, take_enc]
  | false =>
    obtain rfl := hk rfl
    have hlt : off < l.length := by omega
    have : (encIs l).toArray[off]? = some (.int .i64 l[off]) := by simp [encIs, hlt]
    simp only [part, Sem.run_bind, ht.ag w, Result.andThen_ok, Bool.false_eq_true, if_false, this, Sem.run_pure]
    have : (l.drop off).take 1 = [l[off]] := by
      rw [List.drop_eq_getElem_cons hlt]; rfl
    rw [this]; rfl

theorem run_eqFields_ints {P : Program} {d lv : Nat} (hd : lv ≤ d) {xs ys : List Int} (w : World) : ∀ {off : Nat} {fs : List Field} {n : Nat}, FsP P lv off fs n → off + n = xs.length → off + n = ys.length →
    (Op.eqFields d (encIs xs).toArray (encIs ys).toArray fs).run P w = .ok (decide (xs.drop off = ys.drop off)) w := by
  intro off fs n h
  induction h with
  | nil =>
    intro ha hb
    simp only [Op.eqFields, Sem.run_pure]
    rw [List.drop_eq_nil_of_le (by omega), List.drop_eq_nil_of_le (by omega)]; rfl
  | cons hn ho ht he hl hk hr ih =>
    rename_i off f fs k n ag lv'
    have hl' : lv' ≤ lv := by simpa using hl
    intro ha hb
    subst ho
    have hne : f.name ≠ "_" := by simpa using hn
    have hag : ag = false → k = 1 := fun h => by subst h; simpa using hk
    rw [Op.eqFields, if_pos hne]
    simp only [Sem.run_bind, run_part_ints (ht := ht) w (l := xs) (off := f.offset) (k := k) (by omega) hag, run_part_ints (ht := ht) w (l := ys) (off := f.offset) (k := k) (by omega) hag, Result.andThen_ok]
    rw [he.run d ((xs.drop f.offset).take k) ((ys.drop f.offset).take k) _ _ w (by omega) (by simp; omega) (by simp; omega) ⟨ag, ht, rfl, rfl⟩]
    simp only [Result.andThen_ok]
    have key : ∀ (l : List Int), l.drop f.offset = (l.drop f.offset).take k ++ l.drop (f.offset + k) := fun l => by
      rw [← List.drop_drop]; exact (List.take_append_drop k _).symm
    by_cases hh : (xs.drop f.offset).take k = (ys.drop f.offset).take k
    · simp only [hh, decide_true, Bool.not_true, Bool.false_eq_true, if_false]
      rw [ih (by omega) (by omega)]
      congr 2
      rw [eq_iff_iff, key xs, key ys, hh]
      constructor
      · intro h; rw [h]
      · intro h; exact List.append_cancel_left h
    · have : xs.drop f.offset ≠ ys.drop f.offset := fun e => hh (by rw [e])
      simp [hh, this]

theorem EqP.struct {P : Program} {t : TypeId} {lv n : Nat} (fs : List Field) [ht : TyP P t n true (List.replicate n (.int .i64 0))] (hu : P.underlying t = some (.struct fs.toArray)) (hp : P.stoodInHeld t = false) (hf : FsP P lv 0 fs n) : EqP P t (lv + 1) n := ⟨by
  intro d xs ys v u w hd ha hb ⟨ag, hag, hv, hu'⟩
  have : ag = true := by
    have h1 := hag.ag w
    rw [ht.ag w] at h1
    simpa using h1.symm
  subst this
  subst hv hu'
  obtain ⟨d, rfl⟩ : ∃ e, d = e + 1 := ⟨d - 1, by omega⟩
  have hfs : P.fieldsOf t = fs.toArray := by simp [Program.fieldsOf, hu]
  simp only [if_true]
  rw [run_equalIn_struct w d t _ _ (by rw [hfs]; exact hu) hp, hfs]
  have := run_eqFields_ints (d := d) (by omega) w hf (by rw [Nat.zero_add]; exact ha.symm) (by rw [Nat.zero_add]; exact hb.symm)
  simpa using this⟩

section
variable {r : Option Nat} {P : Program} {Q : Exit → Act → World → Prop} {N : Nat} {D : List Deferred} {B : Nat} {w0 : World} {L : Env} {H : Hp} {ops : Array Oper} {rest : List Oper}
variable {d : Nat} {ty : TypeId} {pos : String} {aft : Array Edge}
theorem run_eqS {t : TypeId} {lv n : Nat} {z : List Value} [ht : TyP P t n true z] [he : EqP P t lv n] {vs us : List Value} {xs ys : List Int} (hlv : Nat.ble lv 10000 = true) (hz : z = List.replicate n (.int .i64 0)) (h1 : intsOf vs = some xs) (h2 : intsOf us = some ys) (hn1 : xs.length = n) (hn2 : ys.length = n) (w : World) :
    (Op.equalIn 10000 t (.agg vs.toArray) (.agg us.toArray)).run P w = .ok (decide (xs = ys)) w := by
  subst hz
  rw [intsOf_some h1, intsOf_some h2]
  exact he.run 10000 xs ys _ _ w (by simpa using hlv) hn1 hn2 ⟨true, ht, rfl, rfl⟩
theorem TL_eqlS {t t' : TypeId} {x y : Operand} {lv n : Nat} {z vs us : List Value} {xs ys : List Int} (hd : Nat.blt d N = true) [ht : TyP P t n true z] [he : EqP P t lv n] [hg : EqG P t] (hx : ev L x = some (.agg vs.toArray)) (hy : ev L y = some (.agg us.toArray))
    (h1 : intsOf vs = some xs) (h2 : intsOf us = some ys) (hlv : Nat.ble lv 10000 = true) (hz : z = List.replicate n (.int .i64 0)) (hn1 : xs.length = n) (hn2 : ys.length = n)
    (k : TL r P Q N D B w0 ((d, .bool (decide (xs = ys))) :: L) H ops rest) : TL r P Q N D B w0 L H ops (⟨some d, .binOp .eql t x y t', ty, pos, aft, none⟩ :: rest) :=
  TL_val (by simp) hd _ (fun a w hf _ => by
    have h := run_eqS (P := P) (t := t) hlv hz h1 h2 hn1 hn2 w
    simp [execOp, hf.ev hx, hf.ev hy, run_eqGuard_agg w .eql t x y _ _ hg.guard, run_eql_struct, h]) k
theorem TL_neqS {t t' : TypeId} {x y : Operand} {lv n : Nat} {z vs us : List Value} {xs ys : List Int} (hd : Nat.blt d N = true) [ht : TyP P t n true z] [he : EqP P t lv n] [hg : EqG P t] (hx : ev L x = some (.agg vs.toArray)) (hy : ev L y = some (.agg us.toArray))
    (h1 : intsOf vs = some xs) (h2 : intsOf us = some ys) (hlv : Nat.ble lv 10000 = true) (hz : z = List.replicate n (.int .i64 0)) (hn1 : xs.length = n) (hn2 : ys.length = n)
    (k : TL r P Q N D B w0 ((d, .bool (decide (xs ≠ ys))) :: L) H ops rest) : TL r P Q N D B w0 L H ops (⟨some d, .binOp .neq t x y t', ty, pos, aft, none⟩ :: rest) :=
  TL_val (by simp) hd _ (fun a w hf _ => by
    have h := run_eqS (P := P) (t := t) hlv hz h1 h2 hn1 hn2 w
    simp [execOp, hf.ev hx, hf.ev hy, run_eqGuard_agg w .neq t x y _ _ hg.guard, run_neq_struct, h]) k
end
end Go.Eng
/- The engine, all parts; small laws of heaps. -/
namespace Go.Eng
open Go Go.RowKit
theorem pm_here {ob G : Hp} : (ob ++ G).Perm (ob ++ G) := List.Perm.refl _
theorem pm_cons {ob G H : Hp} {x : Nat × Blk} (h : (ob ++ G).Perm H) : (ob ++ x :: G).Perm (x :: H) := List.perm_middle.trans (h.cons x)
theorem RetV.no {p : Prop} {i : Decidable p} {w w' : World} (h : ¬ p) (hb : Below w.heap.size w w') : RetV w (.bool (@decide p i)) (.returned (.bool false)) w' := ⟨by rw [decide_eq_false h], hb⟩
theorem RetV.yes {p : Prop} {i : Decidable p} {w w' : World} (h : p) (hb : Below w.heap.size w w') : RetV w (.bool (@decide p i)) (.returned (.bool true)) w' := ⟨by rw [decide_eq_true h], hb⟩
end Go.Eng
