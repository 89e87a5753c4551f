/- Walks of the package hour: Night. -/
import Derived.Test.YtkpkebpofpcmaaaGreatDoorH7
import Derived.Test.YtkpkebpofpcmaaaGreatDoorEngR
namespace Go.Proofs.YtkpkebpofpcmaaaGreatDoor
open Go Go.Eng Go.RowKit Go.Proofs
set_option maxHeartbeats 4000000
set_option maxRecDepth 10000
attribute [local irreducible] TL TC TQ

def mosW (k : Ck) (l : List Cg) (T : List Sp) (j : Nat) : List Sp := (List.range j).map (momW k l T)
/-- Backward: what a moment can be told from the next one. -/
def bkW (k : Ck) (l : List Cg) : Nat → List Sp → List Sp
  | 0, A => A
  | i + 1, A => bkW k l i (A.set i (comW (A.getD i (0, 0)) [(wr ((A.getD (i + 1) (0, 0)).1 - (stepW k (l.getD (i + 1) cg0)).2), wr ((A.getD (i + 1) (0, 0)).2 - (stepW k (l.getD (i + 1) cg0)).1))]))
/-- What the moments of changes are known to be. -/
def nightOk (k : Ck) (day : Int) (l : List Cg) : Prop := openE k day = 0 ∧ l.length ≤ 20 ∧ okCgs (k, day) l ∧ ∀ i, i < l.length → momW k l (l.map (vvW (k, day))) i ≠ (1, 0)
/-- The moments, where they are kept, and an error. -/
structure NightR (k : Ck) (day : Int) (l : List Cg) (m : List Sp) (e : Int) : Prop where
  len : m.length ≤ 20
  ok : nightOk k day l → e = 0
  all : e = 0 → m.length = l.length ∧ ∀ i, i + 1 = l.length → m[i]? = some (minW (momW k l (l.map (vvW (k, day))) i))
  mom : e = 0 → m = (bkW k l (l.length - 1) (mosW k l (l.map (vvW (k, day))) l.length)).map minW
end Go.Proofs.YtkpkebpofpcmaaaGreatDoor
