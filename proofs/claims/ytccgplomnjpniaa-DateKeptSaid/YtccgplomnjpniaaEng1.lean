/- The engine of this claim's proofs, part 1: environments, symbolic heaps, and the rules for plain operations. It speaks of no program. -/
import Derived.WalkKit
import Derived.CallsIn
import Derived.TacticsIn
import Derived.OrdersIn
namespace Go.Eng
open Go Go.RowKit

/-! ### Environments -/
abbrev Env := List (Nat × Value)

def lk : Env → Nat → Option Value
  | [], _ => none
  | (k, v) :: L, n => match Nat.beq k n with
    | true => some v
    | false => lk L n

def ev (L : Env) : Operand → Option Value
  | .tmp t => lk L t
  | .const v => some v
  | .global g => some (.pointer (some ⟨g, 0, none⟩))
  | .func f => some (.func (.func f) #[] #[])

/-- The frame holds what the environment says. -/
structure Fr (N : Nat) (D : List Deferred) (L : Env) (a : Act) : Prop where
  size : a.tmps.size = N
  defers : a.defers = D
  get : ∀ k v, lk L k = some v → a.tmps[k]? = some v

theorem Fr.ev {N D L a x v} (h : Fr N D L a) (hx : ev L x = some v) : a.eval x = v := by
  cases x with
  | tmp t =>
    have := h.get t v hx
    simp [Act.eval, Array.getD_eq_getD_getElem?, this]
  | const u => simpa [Eng.ev, Act.eval] using hx
  | global g => simpa [Eng.ev, Act.eval] using hx
  | func f => simpa [Eng.ev, Act.eval] using hx

theorem lk_cons_same (L : Env) (d : Nat) (v : Value) : lk ((d, v) :: L) d = some v := by simp [lk]
theorem lk_cons_ne (L : Env) {d k : Nat} (v : Value) (h : d ≠ k) : lk ((d, v) :: L) k = lk L k := by
  have : Nat.beq d k = false := by
    cases hb : Nat.beq d k with
    | false => rfl
    | true => exact absurd (Nat.eq_of_beq_eq_true hb) h
  simp [lk, this]

theorem Fr.put {N D L a} (h : Fr N D L a) {d : Nat} (hd : Nat.blt d N = true) (v : Value) : Fr N D ((d, v) :: L) (a.put (some d) v) := by
  have hd' : d < N := by simpa [Nat.blt_eq] using hd
  refine ⟨by simp [Act.put, h.size], by simp [Act.put, h.defers], fun k u hk => ?_⟩
  by_cases hkd : d = k
  · subst hkd
    rw [lk_cons_same] at hk
    cases hk
    simp [Act.put, h.size, hd']
  · rw [lk_cons_ne L v hkd] at hk
    have := h.get k u hk
    simp [Act.put, hkd, this]

theorem Fr.put_none {N D L a} (h : Fr N D L a) (v : Value) : Fr N D L (a.put none v) := h

/-- A weaker environment. -/
def Sub (L' L : Env) : Prop := ∀ k v, lk L' k = some v → lk L k = some v
theorem Fr.sub {N D L L' a} (h : Fr N D L a) (hs : Sub L' L) : Fr N D L' a := ⟨h.size, h.defers, fun k v hk => h.get k v (hs k v hk)⟩
theorem Sub.nil (L : Env) : Sub [] L := fun _ _ h => by cases h
theorem Sub.cons {L L' : Env} {k : Nat} {v : Value} (h : lk L k = some v) (hs : Sub L' L) : Sub ((k, v) :: L') L := fun j u hj => by
  by_cases e : k = j
  · subst e; rw [lk_cons_same] at hj; cases hj; exact h
  · rw [lk_cons_ne _ _ e] at hj; exact hs j u hj
theorem Sub.refl (L : Env) : Sub L L := fun _ _ h => h

/-! ### Symbolic heaps -/
inductive Blk where
  | cells (c : List Value) (t : TypeId)
  | obj (o : Obj)
def Blk.toObj : Blk → Obj
  | .cells c t => .cells c.toArray t (0, 0)
  | .obj o => o
abbrev Hp := List (Nat × Blk)

/-- The world w, as it grew out of w0 (whose blocks below B it keeps), holds the blocks of H: all of them made since. -/
structure SH (B : Nat) (w0 w : World) (H : Hp) : Prop where
  base : B ≤ w0.heap.size
  below : Below B w0 w
  nodup : (H.map (·.1)).Nodup
  holds : ∀ b k, (b, k) ∈ H → B ≤ b ∧ w.heap[b]? = some k.toObj

theorem SH.lt {B w0 w H b k} (h : SH B w0 w H) (hm : (b, k) ∈ H) : b < w.heap.size :=
  (Array.getElem?_eq_some_iff.1 (h.holds b k hm).2).1

theorem SH.refl (w : World) : SH w.heap.size w w [] := ⟨Nat.le_refl _, Below.refl _ _, by simp, fun _ _ h => by cases h⟩
theorem SH.hB {B w0 w H} (h : SH B w0 w H) : B ≤ w.heap.size := Nat.le_trans h.base h.below.size

/-- What only lays new blocks (and draws) keeps the symbolic heap. -/
theorem SH.ext {B w0 w w' H} (h : SH B w0 w H) (hb : Below w.heap.size w w') : SH B w0 w' H :=
  ⟨h.base, h.below.trans (hb.mono h.hB), h.nodup, fun b k hm => ⟨(h.holds b k hm).1, by rw [hb.block b (h.lt hm)]; exact (h.holds b k hm).2⟩⟩

/-- A callee's new blocks join. -/
theorem SH.join {B w0 w w' H H'} (h : SH B w0 w H) (hc : SH w.heap.size w w' H') : SH B w0 w' (H' ++ H) := by
  have h1 := h.ext hc.below
  have hB := h.hB
  refine ⟨h.base, h1.below, ?_, fun b k hm => ?_⟩
  · rw [List.map_append, List.nodup_append]
    refine ⟨hc.nodup, h.nodup, fun x hx y hy e => ?_⟩
    obtain ⟨p, hp, rfl⟩ := List.mem_map.1 hx
    obtain ⟨q, hq, rfl⟩ := List.mem_map.1 hy
    have h2 := (hc.holds p.1 p.2 hp).1
    have h3 := h.lt (b := q.1) (k := q.2) hq
    omega
  · rcases List.mem_append.1 hm with hm | hm
    · exact ⟨Nat.le_trans hB (hc.holds b k hm).1, (hc.holds b k hm).2⟩
    · exact h1.holds b k hm

theorem SH.sub {B w0 w H H'} (h : SH B w0 w H) (hs : List.Sublist H' H) : SH B w0 w H' :=
  ⟨h.base, h.below, (hs.map (·.1)).nodup h.nodup, fun b k hm => h.holds b k (hs.mem hm)⟩
theorem SH.perm {B w0 w H H'} (h : SH B w0 w H) (hp : H'.Perm H) : SH B w0 w H' :=
  ⟨h.base, h.below, ((hp.map (·.1)).nodup_iff).2 h.nodup, fun b k hm => h.holds b k (hp.mem_iff.1 hm)⟩

theorem SH.alloc {B w0 w H} (h : SH B w0 w H) (k : Blk) : SH B w0 (w.alloc k.toObj) ((w.heap.size, k) :: H) := by
  have := SH.join (H' := [(w.heap.size, k)]) h (w' := w.alloc k.toObj) ⟨Nat.le_refl _, (Below.refl _ _).alloc (Nat.le_refl _) _, by simp, fun b j hm => by
    rw [List.mem_singleton] at hm; cases hm; exact ⟨Nat.le_refl _, heap_alloc_new w _⟩⟩
  exact this

theorem SH.drew {B w0 w H} (h : SH B w0 w H) : SH B w0 w.drew H := ⟨h.base, h.below.drew, h.nodup, h.holds⟩

theorem SH.nil {B w0 w} (hb : B ≤ w0.heap.size) (h : Below B w0 w) : SH B w0 w [] := ⟨hb, h, by simp, fun _ _ h => by cases h⟩

/-- 'Upd H b k k' H'': H' is H with block b's contents k turned to k'. -/
inductive Upd : Hp → Nat → Blk → Blk → Hp → Prop
  | head {H b k k'} : Upd ((b, k) :: H) b k k' ((b, k') :: H)
  | tail {H b k k' H' x} : Upd H b k k' H' → Upd (x :: H) b k k' (x :: H')
  | right {H b k k' H' G} : Upd H b k k' H' → Upd (G ++ H) b k k' (G ++ H')

theorem Upd.mem {H b k k' H'} (h : Upd H b k k' H') : (b, k) ∈ H := by
  induction h with
  | head => exact List.mem_cons_self
  | tail _ ih => exact List.mem_cons_of_mem _ ih
  | right _ ih => exact List.mem_append_right _ ih
theorem Upd.keys {H b k k' H'} (h : Upd H b k k' H') : H'.map (·.1) = H.map (·.1) := by
  induction h with
  | head => rfl
  | tail _ ih => simp [ih]
  | right _ ih => simp [ih]
theorem Upd.mem' {H b k k' H'} (h : Upd H b k k' H') (hn : (H.map (·.1)).Nodup) : ∀ c j, (c, j) ∈ H' → (c = b ∧ j = k') ∨ (c ≠ b ∧ (c, j) ∈ H) := by
  induction h with
  | head =>
    rename_i H b k k'
    intro c j hm
    rcases List.mem_cons.1 hm with e | hm
    · cases e; exact .inl ⟨rfl, rfl⟩
    · refine .inr ⟨fun e => ?_, List.mem_cons_of_mem _ hm⟩
      simp only [List.map_cons, List.nodup_cons] at hn
      exact hn.1 (List.mem_map.2 ⟨_, hm, e⟩)
  | tail h0 ih =>
    rename_i H b k k' H' x
    intro c j hm
    simp only [List.map_cons, List.nodup_cons] at hn
    rcases List.mem_cons.1 hm with e | hm
    · subst e
      refine .inr ⟨fun e => ?_, List.mem_cons_self⟩
      subst e
      exact hn.1 (List.mem_map.2 ⟨_, h0.mem, rfl⟩)
    · rcases ih hn.2 c j hm with h | ⟨h1, h2⟩
      · exact .inl h
      · exact .inr ⟨h1, List.mem_cons_of_mem _ h2⟩
  | right h0 ih =>
    rename_i H b k k' H' G
    intro c j hm
    rw [List.map_append, List.nodup_append] at hn
    rcases List.mem_append.1 hm with hm | hm
    · refine .inr ⟨fun e => ?_, List.mem_append_left _ hm⟩
      subst e
      exact hn.2.2 _ (List.mem_map.2 ⟨_, hm, rfl⟩) _ (List.mem_map.2 ⟨_, h0.mem, rfl⟩) rfl
    · rcases ih hn.2.1 c j hm with h | ⟨h1, h2⟩
      · exact .inl h
      · exact .inr ⟨h1, List.mem_append_right _ h2⟩

/-- A world in which block b alone has turned. -/
theorem SH.upd {B w0 w w' H H' b k k'} (h : SH B w0 w H) (hu : Upd H b k k' H') (hos : w'.os = w.os) (ht : w'.tape = w.tape) (ho : w'.output = w.output)
    (hs : w'.heap.size = w.heap.size) (hb : w'.heap[b]? = some k'.toObj) (hother : ∀ c, c ≠ b → w'.heap[c]? = w.heap[c]?) : SH B w0 w' H' := by
  have hBb := (h.holds b k hu.mem).1
  refine ⟨h.base, ⟨hos.trans h.below.os, ht.trans h.below.tape, ho.trans h.below.output, by rw [hs]; exact h.below.size, fun c hc => ?_⟩, by rw [hu.keys]; exact h.nodup, fun c j hm => ?_⟩
  · rw [hother c (by omega)]; exact h.below.block c hc
  · rcases hu.mem' h.nodup c j hm with ⟨rfl, rfl⟩ | ⟨hne, hm⟩
    · exact ⟨hBb, hb⟩
    · exact ⟨(h.holds c j hm).1, by rw [hother c hne]; exact (h.holds c j hm).2⟩

/-! ### The judgements -/
/-- The fence of the engine: all is let; only whether we are in a round of a loop over a function is told. -/
def FW (r : Option Nat) : Fence := { fn := fun _ => True, depth := none, alive := false, round := r }

section
variable (r : Option Nat) (P : Program) (Q : Exit → Act → World → Prop) (N : Nat) (D : List Deferred) (B : Nat) (w0 : World) (L : Env) (H : Hp)
def TL (ops : Array Oper) (rest : List Oper) : Prop := ∀ a w, Fr N D L a → SH B w0 w H → wpListIn (FW r) 0 P ops Q rest a w
def TC (c : Code) : Prop := ∀ a w, Fr N D L a → SH B w0 w H → c.wpIn (FW r) 0 P Q a w
def TQ (e : Exit) : Prop := ∀ a w, Fr N D L a → SH B w0 w H → Q e a w
end

section
variable {r : Option Nat} {P : Program} {Q : Exit → Act → World → Prop} {N : Nat} {D : List Deferred} {B : Nat} {w0 : World} {L : Env} {H : Hp} {ops : Array Oper} {rest : List Oper}

theorem TC.weaken {c : Code} {L' : Env} {H' : Hp} (hL : Sub L' L) (hH : ∀ w, SH B w0 w H → SH B w0 w H') (h : TC r P Q N D B w0 L' H' c) : TC r P Q N D B w0 L H c :=
  fun a w hf hs => h a w (hf.sub hL) (hH w hs)
theorem TL.weaken {L' : Env} {H' : Hp} (hL : Sub L' L) (hH : ∀ w, SH B w0 w H → SH B w0 w H') (h : TL r P Q N D B w0 L' H' ops rest) : TL r P Q N D B w0 L H ops rest :=
  fun a w hf hs => h a w (hf.sub hL) (hH w hs)
theorem TQ.weaken {e : Exit} {L' : Env} {H' : Hp} (hL : Sub L' L) (hH : ∀ w, SH B w0 w H → SH B w0 w H') (h : TQ Q N D B w0 L' H' e) : TQ Q N D B w0 L H e :=
  fun a w hf hs => h a w (hf.sub hL) (hH w hs)

theorem TC_seq {x y : Code} (h : TC r P (Exit.then (y.wpIn (FW r) 0 P Q) Q) N D B w0 L H x) : TC r P Q N D B w0 L H (.seq x y) :=
  fun a w hf hs => wpIn_seq (h a w hf hs)
theorem TC_skip (h : TQ Q N D B w0 L H .normal) : TC r P Q N D B w0 L H .skip := fun a w hf hs => wpIn_skip (h a w hf hs)
theorem TC_ret (h : TQ Q N D B w0 L H .ret) : TC r P Q N D B w0 L H .ret := fun a w hf hs => wpIn_ret (h a w hf hs)
theorem TC_exit {i : Nat} (h : TQ Q N D B w0 L H (.exit i)) : TC r P Q N D B w0 L H (.exit i) := fun a w hf hs => wpIn_exit (h a w hf hs)
theorem TC_label {i : Nat} (h : TQ Q N D B w0 L H .normal) : TC r P Q N D B w0 L H (.label i) := fun a w hf hs => wpIn_label (h a w hf hs)
theorem TC_block {i : Nat} {c : Code} (h : TC r P (Exit.inBlock i Q) N D B w0 L H c) : TC r P Q N D B w0 L H (.block i c) :=
  fun a w hf hs => wpIn_block (h a w hf hs)
theorem TC_region {i : Nat} {l : List Oper} (h : TL r P Q N D B w0 L H l.toArray l) : TC r P Q N D B w0 L H (.region i l.toArray false) :=
  fun a w hf hs => wpIn_region_lit (h a w hf hs)
theorem TC_cond {c : Operand} {x y : Code} {p : Bool} (hc : ev L c = some (.bool p)) (hx : p = true → TC r P Q N D B w0 L H x) (hy : p = false → TC r P Q N D B w0 L H y) :
    TC r P Q N D B w0 L H (.cond c x y) :=
  fun a w hf hs => wpIn_cond_split (hf.ev hc) (fun h => hx h a w hf hs) (fun h => hy h a w hf hs)
theorem TC_cond_dec {c : Operand} {x y : Code} {p : Prop} {_ : Decidable p} (hc : ev L c = some (.bool (decide p))) (hx : p → TC r P Q N D B w0 L H x) (hy : ¬ p → TC r P Q N D B w0 L H y) :
    TC r P Q N D B w0 L H (.cond c x y) :=
  TC_cond hc (fun h => hx (of_decide_eq_true h)) (fun h => hy (of_decide_eq_false h))
theorem TC_cond_t {c : Operand} {x y : Code} {p : Bool} (hc : ev L c = some (.bool p)) (hp : p = true) (hx : TC r P Q N D B w0 L H x) : TC r P Q N D B w0 L H (.cond c x y) :=
  TC_cond hc (fun _ => hx) (fun h => by rw [hp] at h; cases h)
theorem TC_cond_f {c : Operand} {x y : Code} {p : Bool} (hc : ev L c = some (.bool p)) (hp : p = false) (hy : TC r P Q N D B w0 L H y) : TC r P Q N D B w0 L H (.cond c x y) :=
  TC_cond hc (fun h => by rw [hp] at h; cases h) (fun _ => hy)

theorem TL_nil (h : TQ Q N D B w0 L H .normal) : TL r P Q N D B w0 L H ops [] := fun a w hf hs => wpListIn_nil (h a w hf hs)

theorem TQ_then {y : Code} (h : TC r P Q N D B w0 L H y) : TQ (Exit.then (y.wpIn (FW r) 0 P Q) Q) N D B w0 L H .normal := h
theorem TQ_then_e {K : Act → World → Prop} {e : Exit} (he : e ≠ .normal) (h : TQ Q N D B w0 L H e) : TQ (Exit.then K Q) N D B w0 L H e := fun a w hf hs => by
  cases e <;> first | exact absurd rfl he | exact h a w hf hs
theorem TQ_then_exit {K : Act → World → Prop} {i : Nat} (h : TQ Q N D B w0 L H (.exit i)) : TQ (Exit.then K Q) N D B w0 L H (.exit i) := h
theorem TQ_then_ret {K : Act → World → Prop} (h : TQ Q N D B w0 L H .ret) : TQ (Exit.then K Q) N D B w0 L H .ret := h
theorem TQ_block {i : Nat} (h : TQ Q N D B w0 L H .normal) : TQ (Exit.inBlock i Q) N D B w0 L H .normal := h
theorem TQ_block_ret {i : Nat} (h : TQ Q N D B w0 L H .ret) : TQ (Exit.inBlock i Q) N D B w0 L H .ret := h
theorem TQ_block_exit {i j : Nat} (hij : j = i) (h : TQ Q N D B w0 L H .normal) : TQ (Exit.inBlock i Q) N D B w0 L H (.exit j) := fun a w hf hs => by
  subst hij; simpa [Exit.inBlock] using h a w hf hs
theorem TQ_block_exit_ne {i j : Nat} (hij : Nat.beq j i = false) (h : TQ Q N D B w0 L H (.exit j)) : TQ (Exit.inBlock i Q) N D B w0 L H (.exit j) := fun a w hf hs => by
  have : j ≠ i := fun e => by subst e; simp at hij
  simpa [Exit.inBlock, this] using h a w hf hs

/-! ### One operation -/
theorem semAt_any {o : Oper} (hnd : ∀ c, o.op ≠ .defer c) (a : Act) : o.semAt (FW r).round a.eval = execOp a.eval o := Oper.semAt_eq _ _ _ hnd

theorem TL_run {o : Oper} (hg : o.guard = none) (hnd : ∀ c, o.op ≠ .defer c)
    (h : ∀ a w, Fr N D L a → SH B w0 w H → o.uponIn (FW r) 0 P a (wpListIn (FW r) 0 P ops Q rest) Q ((execOp a.eval o).run P w)) : TL r P Q N D B w0 L H ops (o :: rest) := by
  intro a w hf hs
  unfold wpListIn
  rw [if_pos (by simp [Region.wanted, hg])]
  exact ⟨fun _ _ => trivial, by rw [semAt_any hnd]; exact h a w hf hs⟩

/-- An operation that yields a value and leaves the world as it is. -/
theorem TL_val {d : Nat} {op : Op} {ty : TypeId} {pos : String} {aft : Array Edge} (hnd : ∀ c, op ≠ .defer c) (hd : Nat.blt d N = true) (v : Value)
    (hrun : ∀ a w, Fr N D L a → SH B w0 w H → (execOp a.eval ⟨some d, op, ty, pos, aft, none⟩).run P w = .ok (.value v) w)
    (k : TL r P Q N D B w0 ((d, v) :: L) H ops rest) : TL r P Q N D B w0 L H ops (⟨some d, op, ty, pos, aft, none⟩ :: rest) :=
  TL_run rfl hnd fun a w hf hs => by
    rw [hrun a w hf hs]
    exact k _ _ (hf.put hd v) hs

/-- .. and may turn the world into one of another symbolic heap. -/
theorem TL_valw {d : Nat} {op : Op} {ty : TypeId} {pos : String} {aft : Array Edge} (hnd : ∀ c, op ≠ .defer c) (hd : Nat.blt d N = true) {X : Type} (val : X → Value) (H' : X → Hp) (Φ : X → Prop)
    (hrun : ∀ a w, Fr N D L a → SH B w0 w H → ∃ x w', Φ x ∧ (execOp a.eval ⟨some d, op, ty, pos, aft, none⟩).run P w = .ok (.value (val x)) w' ∧ SH B w0 w' (H' x))
    (k : ∀ x, Φ x → TL r P Q N D B w0 ((d, val x) :: L) (H' x) ops rest) : TL r P Q N D B w0 L H ops (⟨some d, op, ty, pos, aft, none⟩ :: rest) :=
  TL_run rfl hnd fun a w hf hs => by
    obtain ⟨x, w', hx, hr, hs'⟩ := hrun a w hf hs
    rw [hr]
    exact k x hx _ _ (hf.put hd _) hs'

theorem TL_skipw {op : Op} {ty : TypeId} {pos : String} {aft : Array Edge} (hnd : ∀ c, op ≠ .defer c) (H' : Hp)
    (hrun : ∀ a w, Fr N D L a → SH B w0 w H → ∃ w', (execOp a.eval ⟨none, op, ty, pos, aft, none⟩).run P w = .ok .skip w' ∧ SH B w0 w' H')
    (k : TL r P Q N D B w0 L H' ops rest) : TL r P Q N D B w0 L H ops (⟨none, op, ty, pos, aft, none⟩ :: rest) :=
  TL_run rfl hnd fun a w hf hs => by
    obtain ⟨w', hr, hs'⟩ := hrun a w hf hs
    rw [hr]
    exact k _ _ (hf.put_none _) hs'

/-! ### Guards -/
theorem TL_guard_yes {d : Option Nat} {op : Op} {ty : TypeId} {pos : String} {aft : Array Edge} {j : Nat} {b p : Bool} {dj : Nat} (hj : ((ops[j]?).bind (·.dst)) = some dj) (hl : lk L dj = some (.bool p)) (hp : p = b)
    (h : TL r P Q N D B w0 L H ops (⟨d, op, ty, pos, aft, none⟩ :: rest)) : TL r P Q N D B w0 L H ops (⟨d, op, ty, pos, aft, some (j, b)⟩ :: rest) := by
  intro a w hf hs
  have h1 := h a w hf hs
  have hy : yielded ops a.tmps j = some b := by
    have := hf.get _ _ hl
    simp [yielded, hj, this, hp]
  unfold wpListIn at h1 ⊢
  rw [if_pos (by simp [Region.wanted])] at h1
  rw [if_pos (by simp [Region.wanted, hy])]
  exact h1

theorem TL_guard_no {d : Nat} {op : Op} {ty : TypeId} {pos : String} {aft : Array Edge} {j : Nat} {b p : Bool} {dj : Nat} (hj : ((ops[j]?).bind (·.dst)) = some dj) (hl : lk L dj = some (.bool p)) (hp : p = !b)
    (hd : Nat.blt d N = true) (h : TL r P Q N D B w0 ((d, undef) :: L) H ops rest) : TL r P Q N D B w0 L H ops (⟨some d, op, ty, pos, aft, some (j, b)⟩ :: rest) := by
  intro a w hf hs
  have hy : yielded ops a.tmps j = some (!b) := by
    have := hf.get _ _ hl
    simp [yielded, hj, this, hp]
  unfold wpListIn
  rw [if_neg (by simp [Region.wanted, hy])]
  exact ⟨fun _ _ => trivial, h _ _ (hf.put hd _) hs⟩
theorem TL_guard_no_none {op : Op} {ty : TypeId} {pos : String} {aft : Array Edge} {j : Nat} {b p : Bool} {dj : Nat} (hj : ((ops[j]?).bind (·.dst)) = some dj) (hl : lk L dj = some (.bool p)) (hp : p = !b)
    (h : TL r P Q N D B w0 L H ops rest) : TL r P Q N D B w0 L H ops (⟨none, op, ty, pos, aft, some (j, b)⟩ :: rest) := by
  intro a w hf hs
  have hy : yielded ops a.tmps j = some (!b) := by
    have := hf.get _ _ hl
    simp [yielded, hj, this, hp]
  unfold wpListIn
  rw [if_neg (by simp [Region.wanted, hy])]
  exact ⟨fun _ _ => trivial, h _ _ (hf.put_none _) hs⟩

end
end Go.Eng
