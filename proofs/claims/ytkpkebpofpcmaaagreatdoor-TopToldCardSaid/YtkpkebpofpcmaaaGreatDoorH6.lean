/- Walks of the package hour: whether changes are valid. -/
import Derived.Test.YtkpkebpofpcmaaaGreatDoorH5
namespace Go.Proofs.YtkpkebpofpcmaaaGreatDoor
open Go Go.Eng Go.RowKit Go.Proofs
set_option maxHeartbeats 2000000
set_option maxRecDepth 10000
attribute [local irreducible] TL TC TQ

structure CgAt (w : World) (ao : Option Addr) (l : List Cg) : Prop where
  s : Sl w 3 encCg ao l
  t : ∀ c ∈ l, Sl w 5 encTg c.ao c.told
def okCg (k : Kp) (i : Nat) (c : Cg) : Prop := toldOk k c.told = true ∧ c.told.length ≤ 10 ∧ In c.bowls 0 200 ∧ (i = 0 → c.bowls ≤ 0 ∧ c.full = true)
def vvW (k : Kp) (c : Cg) : Sp := comW (ofW (-10000000, 10000000)) (toldM k c.told)
def okCgs (k : Kp) (l : List Cg) : Prop := ∀ (i : Nat) c, l[i]? = some c → okCg k i c
end Go.Proofs.YtkpkebpofpcmaaaGreatDoor
