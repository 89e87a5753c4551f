/- The data of surveys, as plain Lean, and how it lies in cells. -/
import Derived.Test.YtoolblbdmmiahaaDoorEngC
namespace Go.Proofs.YtoolblbdmmiahaaDoor
open Go Go.Eng Go.RowKit Go.Proofs

abbrev Sp := Int × Int
def encI (x : Int) : List Value := [.int .i64 x]
def encSp (s : Sp) : List Value := [.int .i64 s.1, .int .i64 s.2]
structure Sh where
  fr : Int
  to : Int
  rise : Sp
def encSh (x : Sh) : List Value := [.int .i64 x.fr, .int .i64 x.to, .int .i64 x.rise.1, .int .i64 x.rise.2]
structure Mk where
  pt : Int
  ht : Sp
def encMk (x : Mk) : List Value := [.int .i64 x.pt, .int .i64 x.ht.1, .int .i64 x.ht.2]
structure Th where
  fr : Int
  to : Int
  long : Sp
def encTh (x : Th) : List Value := [.int .i64 x.fr, .int .i64 x.to, .int .i64 x.long.1, .int .i64 x.long.2]
structure Sv where
  pts : Int
  shots : List Sh
  marks : List Mk
  thr : List Th
/-- Where the lists of a survey lie. -/
structure Pl where
  a1 : Option Addr
  c1 : Nat
  a2 : Option Addr
  c2 : Nat
  a3 : Option Addr
  c3 : Nat
def encSv (S : Sv) (p : Pl) : List Value := [.int .i64 S.pts, .slice p.a1 S.shots.length p.c1, .slice p.a2 S.marks.length p.c2, .slice p.a3 S.thr.length p.c3]
def In (a lo hi : Int) : Prop := lo ≤ a ∧ a ≤ hi
def Ord (s : Sp) (lo hi : Int) : Prop := lo ≤ s.1 ∧ s.1 ≤ s.2 ∧ s.2 ≤ hi
instance (a lo hi : Int) : Decidable (In a lo hi) := inferInstanceAs (Decidable (_ ∧ _))
instance (s : Sp) (lo hi : Int) : Decidable (Ord s lo hi) := inferInstanceAs (Decidable (_ ∧ _))
/-- A survey is valid. -/
def OkSh (n : Int) (x : Sh) : Prop := (In x.fr 0 (n - 1) ∧ In x.to 0 (n - 1) ∧ x.fr ≠ x.to) ∧ Ord x.rise (-20000000) 20000000
def OkMk (n : Int) (x : Mk) : Prop := In x.pt 0 (n - 1) ∧ Ord x.ht (-10000000) 10000000
def OkTh (n : Int) (x : Th) : Prop := (In x.fr 0 (n - 1) ∧ In x.to 0 (n - 1) ∧ x.fr ≠ x.to) ∧ Ord x.long 1 100000000
instance (n : Int) (x : Sh) : Decidable (OkSh n x) := inferInstanceAs (Decidable (_ ∧ _))
instance (n : Int) (x : Mk) : Decidable (OkMk n x) := inferInstanceAs (Decidable (_ ∧ _))
instance (n : Int) (x : Th) : Decidable (OkTh n x) := inferInstanceAs (Decidable (_ ∧ _))
def OkSv (S : Sv) : Prop := In S.pts 1 20 ∧ S.shots.length ≤ 60 ∧ S.marks.length ≤ 20 ∧ S.thr.length ≤ 30 ∧ (∀ x ∈ S.shots, OkSh S.pts x) ∧ (∀ x ∈ S.marks, OkMk S.pts x) ∧ ∀ x ∈ S.thr, OkTh S.pts x
instance (S : Sv) : Decidable (OkSv S) := inferInstanceAs (Decidable (_ ∧ _))
end Go.Proofs.YtoolblbdmmiahaaDoor
