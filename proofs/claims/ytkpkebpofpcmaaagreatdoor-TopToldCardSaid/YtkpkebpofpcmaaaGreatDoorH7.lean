/- Walks of the package hour: the moments of changes, one after the other. -/
import Derived.Test.YtkpkebpofpcmaaaGreatDoorH6
import Derived.Test.YtkpkebpofpcmaaaGreatDoorEngP
namespace Go.Proofs.YtkpkebpofpcmaaaGreatDoor
open Go Go.Eng Go.RowKit Go.Proofs
set_option maxHeartbeats 4000000
set_option maxRecDepth 10000
instance : EqG Tryz.prog 106 := ⟨by kernel_rfl⟩
attribute [local irreducible] TL TC TQ

def cg0 : Cg := ⟨[], none, 0, 0, false⟩
def nxW (k : Ck) (c : Cg) (t now : Sp) : Sp := comW t [(wr (now.1 + (stepW k c).1), wr (now.2 + (stepW k c).2))]
def momW (k : Ck) (l : List Cg) (T : List Sp) : Nat → Sp
  | 0 => T.getD 0 (0, 0)
  | i + 1 => nxW k (l.getD (i + 1) cg0) (T.getD (i + 1) (0, 0)) (momW k l T i)
end Go.Proofs.YtkpkebpofpcmaaaGreatDoor
