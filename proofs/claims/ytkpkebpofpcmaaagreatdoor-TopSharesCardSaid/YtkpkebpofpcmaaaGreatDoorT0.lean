/- The data of clocks, rolls, deeds and nets, as plain Lean, and how they lie in cells. -/
import Derived.Test.YtkpkebpofpcmaaaGreatDoorFacts
import Derived.Test.YtkpkebpofpcmaaaGreatDoorEngX
import Derived.Test.YtkpkebpofpcmaaaGreatDoorEngR
namespace Go.Proofs.YtkpkebpofpcmaaaGreatDoor
open Go Go.Eng Go.RowKit Go.Proofs

abbrev Sp := Int × Int
def encI (x : Int) : List Value := [.int .i64 x]
def encU (x : Int) : List Value := [.int .u32 x]
def encV (v : Value) : List Value := [v]
def encSp (s : Sp) : List Value := [.int .i64 s.1, .int .i64 s.2]
abbrev St := Sp × Sp
def encSt (s : St) : List Value := [.int .i64 s.1.1, .int .i64 s.1.2, .int .i64 s.2.1, .int .i64 s.2.2]
def In (a lo hi : Int) : Prop := lo ≤ a ∧ a ≤ hi
def Ord (s : Sp) (lo hi : Int) : Prop := lo ≤ s.1 ∧ s.1 ≤ s.2 ∧ s.2 ≤ hi
instance (a lo hi : Int) : Decidable (In a lo hi) := inferInstanceAs (Decidable (_ ∧ _))
instance (s : Sp) (lo hi : Int) : Decidable (Ord s lo hi) := inferInstanceAs (Decidable (_ ∧ _))
def Small (n : Nat) : Prop := n ≤ 4611686018427387904
/-- A clock, and where its lists lie. -/
structure Ck where
  marks : List Sp
  stars : List St
  hand : Sp
  sinks : Sp
  mao : Option Addr
  mc : Nat
  sao : Option Addr
  sc : Nat
def encCk (k : Ck) : List Value := [.slice k.mao k.marks.length k.mc, .slice k.sao k.stars.length k.sc, .int .i64 k.hand.1, .int .i64 k.hand.2, .int .i64 k.sinks.1, .int .i64 k.sinks.2]
structure CkAt (w : World) (k : Ck) : Prop where
  m : Sl w 2 encSp k.mao k.marks
  s : Sl w 4 encSt k.sao k.stars
  ml : Small k.marks.length
  sl : Small k.stars.length
theorem CkAt.mono {w w' : World} {k : Ck} (h : CkAt w k) (hb : Below w.heap.size w w') : CkAt w' k := ⟨h.m.mono hb, h.s.mono hb, h.ml, h.sl⟩
/-- A clock on a day. -/
abbrev Kp := Ck × Int
def encKp (k : Kp) : List Value := encCk k.1 ++ [.int .i64 k.2]
structure Tg where
  kind : Int
  which : Int
  hands : Int
  word : Sp
def encTg (t : Tg) : List Value := [.int .u8 t.kind, .int .i64 t.which, .int .i64 t.hands, .int .i64 t.word.1, .int .i64 t.word.2]
structure Cg where
  told : List Tg
  ao : Option Addr
  cap : Nat
  bowls : Int
  full : Bool
def encCg (c : Cg) : List Value := [.slice c.ao c.told.length c.cap, .int .i64 c.bowls, .bool c.full]
/-- A turn, and whose it is. -/
structure Ho where
  who : Int
  turn : Sp
deriving DecidableEq
def encHo (h : Ho) : List Value := [.int .i64 h.who, .int .i64 h.turn.1, .int .i64 h.turn.2]
structure Ro where
  days : Int
  holds : List Ho
  ao : Option Addr
  cap : Nat
def encRo (r : Ro) : List Value := [.int .i64 r.days, .slice r.ao r.holds.length r.cap]
structure Dd where
  id : Int
  day : Int
  kind : Int
  fr : Int
  to : Int
  turn : Sp
  until_ : Int
  heirs : List Sp
  ao : Option Addr
  cap : Nat
def encDd (x : Dd) : List Value := [.int .i64 x.id, .int .i64 x.day, .int .u8 x.kind, .int .i64 x.fr, .int .i64 x.to, .int .i64 x.turn.1, .int .i64 x.turn.2, .int .i64 x.until_, .slice x.ao x.heirs.length x.cap]
structure Pc where
  turn : Sp
  owner : Int
  let_ : Int
  until_ : Int
deriving DecidableEq
def encPc (p : Pc) : List Value := [.int .i64 p.turn.1, .int .i64 p.turn.2, .int .i64 p.owner, .int .i64 p.let_, .int .i64 p.until_]
structure Bd where
  who : Int
  turn : Sp
  baisa : Int
def encBd (b : Bd) : List Value := [.int .i64 b.who, .int .i64 b.turn.1, .int .i64 b.turn.2, .int .i64 b.baisa]
structure Cn where
  fr : Int
  seep : Sp
  fill : Sp
def encCn (c : Cn) : List Value := [.int .i64 c.fr, .int .i64 c.seep.1, .int .i64 c.seep.2, .int .i64 c.fill.1, .int .i64 c.fill.2]
structure Nt where
  canals : List Cn
  fields : List Int
  dry : Int
  days : Int
  cao : Option Addr
  cc : Nat
  fao : Option Addr
  fc : Nat
def encNt (n : Nt) : List Value := [.slice n.cao n.canals.length n.cc, .slice n.fao n.fields.length n.fc, .int .i64 n.dry, .int .i64 n.days]
structure NtAt (w : World) (n : Nt) : Prop where
  c : Sl w 5 encCn n.cao n.canals
  f : Sl w 1 encI n.fao n.fields
  cl : Small n.canals.length
  fl : Small n.fields.length
structure Us where
  field : Int
  turn : Sp
def encUs (u : Us) : List Value := [.int .i64 u.field, .int .i64 u.turn.1, .int .i64 u.turn.2]
/-- The first place at which p says yes; -1 if there is none. -/
def fidx {α : Type} (p : α → Bool) : List α → Int
  | [] => -1
  | x :: l => if p x then 0 else if fidx p l < 0 then -1 else fidx p l + 1
theorem fidx_spec {α : Type} (p : α → Bool) : ∀ l : List α, (fidx p l = -1 ∧ ∀ x ∈ l, p x = false) ∨ ∃ (i : Nat) (x : α), fidx p l = i ∧ l[i]? = some x ∧ p x = true ∧ ∀ j y, j < i → l[j]? = some y → p y = false := by
  intro l
  induction l with
  | nil => exact .inl ⟨rfl, fun x hx => (by cases hx)⟩
  | cons a l ih =>
    unfold fidx
    by_cases ha : p a = true
    · rw [if_pos ha]; exact .inr ⟨0, a, rfl, rfl, ha, fun j y hj => by omega⟩
    · rw [if_neg ha]
      have ha' : p a = false := by simpa using ha
      rcases ih with ⟨h1, h2⟩ | ⟨i, x, h1, h2, h3, h4⟩
      · rw [if_pos (by omega)]
        exact .inl ⟨rfl, fun x hx => by
          rcases List.mem_cons.1 hx with rfl | hx
          · exact ha'
          · exact h2 x hx⟩
      · rw [if_neg (by omega)]
        refine .inr ⟨i + 1, x, by omega, by simpa using h2, h3, fun j y hj hy => ?_⟩
        cases j with
        | zero => simp at hy; subst hy; exact ha'
        | succ j => exact h4 j y (by omega) (by simpa using hy)
theorem fidx_at {α : Type} {p : α → Bool} {l : List α} {i : Nat} {x : α} (hx : l[i]? = some x) (hp : p x = true) (hn : ∀ j y, j < i → l[j]? = some y → p y = false) : fidx p l = i := by
  rcases fidx_spec p l with ⟨_, h⟩ | ⟨k, y, h1, h2, h3, h4⟩
  · rw [h x (List.mem_of_getElem? hx)] at hp; cases hp
  · rcases Nat.lt_trichotomy i k with h | h | h
    · rw [h4 i x h hx] at hp; cases hp
    · rw [h1, h]
    · rw [hn k y h h2] at h3; cases h3
theorem fidx_none {α : Type} {p : α → Bool} {l : List α} (h : ∀ x ∈ l, p x = false) : fidx p l = -1 := by
  rcases fidx_spec p l with ⟨h1, _⟩ | ⟨k, y, h1, h2, h3, h4⟩
  · exact h1
  · rw [h y (List.mem_of_getElem? h2)] at h3; cases h3
theorem fidx_any {α : Type} (p : α → Bool) (l : List α) : decide (0 ≤ fidx p l) = l.any p := by
  rcases fidx_spec p l with ⟨h1, h2⟩ | ⟨k, y, h1, h2, h3, h4⟩
  · rw [h1, List.any_eq_false.2 (fun x hx => by rw [h2 x hx]; simp)]; rfl
  · rw [h1, List.any_eq_true.2 ⟨y, List.mem_of_getElem? h2, h3⟩]; simp
end Go.Proofs.YtkpkebpofpcmaaaGreatDoor
