/- The data of fruits and bunches, as plain Lean, and how it lies in cells. -/
import Derived.Test.YtccgplomnjpniaaD0
namespace Go.Proofs.Ytccgplomnjpniaa
open Go Go.Eng Go.RowKit Go.Proofs

structure Ft where
  wet : Sp
  dry : Sp
  soft : Int
  half : Int
  keep : Int
  p0 : Int
  p1 : Int
  p2 : Int
def encFt (f : Ft) : List Value := [.int .i64 f.wet.1, .int .i64 f.wet.2, .int .i64 f.dry.1, .int .i64 f.dry.2, .int .i64 f.soft, .int .i64 f.half, .int .i64 f.keep, .int .i64 f.p0, .int .i64 f.p1, .int .i64 f.p2]
def OkFt (f : Ft) : Prop := Ord f.wet 0 1000 ∧ Ord f.dry 0 100 ∧ In f.half 0 1000 ∧ In f.soft 0 1000 ∧ f.half ≤ f.soft ∧ In f.keep 0 30 ∧ In f.p0 0 1000 ∧ In f.p1 0 1000 ∧ In f.p2 0 1000
instance (f : Ft) : Decidable (OkFt f) := inferInstanceAs (Decidable (_ ∧ _))
structure Bn where
  ripe : List Sp
  birds : Sp
  cov : Bool
def encBn (b : Bn) (ao : Option Addr) (c : Nat) : List Value := [.slice ao b.ripe.length c, .int .i64 b.birds.1, .int .i64 b.birds.2, .bool b.cov]
end Go.Proofs.Ytccgplomnjpniaa
