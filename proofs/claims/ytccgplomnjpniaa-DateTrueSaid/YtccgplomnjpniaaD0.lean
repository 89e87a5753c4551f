/- The data of the package date, as plain Lean, and how it lies in cells. -/
import Derived.Test.YtccgplomnjpniaaFacts
namespace Go.Proofs.Ytccgplomnjpniaa
open Go Go.Eng Go.RowKit Go.Proofs

abbrev Sp := Int × Int
abbrev St := Sp × Sp
abbrev Sn := Sp × Int
def encI (x : Int) : List Value := [.int .i64 x]
def encSp (s : Sp) : List Value := [.int .i64 s.1, .int .i64 s.2]
def encSt (s : St) : List Value := [.int .i64 s.1.1, .int .i64 s.1.2, .int .i64 s.2.1, .int .i64 s.2.2]
def encSn (s : Sn) : List Value := [.int .i64 s.1.1, .int .i64 s.1.2, .int .i64 s.2]
structure Rd where
  fod : Sp
  dung : Sp
  eats : Sp
  gives : Sp
  boost : Sp
  seas : List Sn
def encRd (R : Rd) (ao : Option Addr) (c : Nat) : List Value :=
  [.int .i64 R.fod.1, .int .i64 R.fod.2, .int .i64 R.dung.1, .int .i64 R.dung.2, .int .i64 R.eats.1, .int .i64 R.eats.2, .int .i64 R.gives.1, .int .i64 R.gives.2, .int .i64 R.boost.1, .int .i64 R.boost.2, .slice ao R.seas.length c]
def In (a lo hi : Int) : Prop := lo ≤ a ∧ a ≤ hi
def Ord (s : Sp) (lo hi : Int) : Prop := lo ≤ s.1 ∧ s.1 ≤ s.2 ∧ s.2 ≤ hi
instance (a lo hi : Int) : Decidable (In a lo hi) := inferInstanceAs (Decidable (_ ∧ _))
instance (s : Sp) (lo hi : Int) : Decidable (Ord s lo hi) := inferInstanceAs (Decidable (_ ∧ _))
/-- A round is valid. -/
def OkRd (R : Rd) : Prop := Ord R.fod 0 1000000 ∧ Ord R.dung 0 1000000 ∧ Ord R.eats 0 1000 ∧ Ord R.gives 0 1000 ∧ Ord R.boost 0 1000 ∧ R.seas.length ≤ 20 ∧ ∀ x ∈ R.seas, Ord x.1 0 1000000 ∧ In x.2 0 1000000
instance (R : Rd) : Decidable (OkRd R) := inferInstanceAs (Decidable (_ ∧ _))
end Go.Proofs.Ytccgplomnjpniaa
