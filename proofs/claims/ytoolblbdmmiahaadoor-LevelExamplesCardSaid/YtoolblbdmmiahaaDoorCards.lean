/-
  DERIVED. GIVEN WITH THE SEED: THE CARDS: each row of YtoolblbdmmiahaaDoorRows.lean that lists a variable, with what it lists TIED to the program's text (the seventh form; the later family's looks); each row that meets fmt, with fmt's text TOLD by the authors' own Lean function (tested against real Go, not proved from fmt's source: count such statements apart). THE CARD IS WHAT COUNTS. Prove the row's statement (the work); the ties are given (YtoolblbdmmiahaaDoorTie.lean); close each card by the builder's one call (the guide's Derived/Test/ToyasCard.lean, 'card_holds'). Laid BY PROGRAM, IN A SANDBOX (cutbox-door.mjs). By AI agents, Wed Nov 11 2026. No macro, syntax, notation, axiom, sorry.
-/
import Derived.Test.YtoolblbdmmiahaaDoorRows
import GoSem.ClaimSeven
namespace Go.Proofs.YtoolblbdmmiahaaDoor
namespace Rows

/-- THE TIED CARD OF 'aflajlaw01.LevelExamples'. -/
def levelExamplesCard : Claim7 := { stood := { row := levelExamplesRow, standIns := [], harness := (true, "30ee3c6971ed8e8744f594cfa3669e850d24b01e4887e7df6a39b799bf2b14ce"), looks := false }, kinds := [], alts := [], laidByText := true, laidKinds := [.data, .data, .data], laidTests := true, laidLooks := .later }
def LevelExamplesCardSaid : Prop := Claim7.holds Tryd.pinned (.plain (OpenSpec.ofChange levelExamplesSpec)) levelExamplesCard

/-- THE SECOND FORM's CARD OF 'aflajlaw01.LevelExamples'. -/
def levelExamplesUptoCard : Claim7 := { stood := { row := levelExamplesUptoRow, standIns := [], harness := (true, "30ee3c6971ed8e8744f594cfa3669e850d24b01e4887e7df6a39b799bf2b14ce"), looks := false }, kinds := [], alts := [], laidByText := true, laidKinds := [.data, .data, .data], laidTests := true, laidLooks := .later }
def LevelExamplesUptoCardSaid : Prop := Claim7.holds Tryd.pinned (.plain (OpenSpec.upto levelExamplesSpec)) levelExamplesUptoCard
end Rows
end Go.Proofs.YtoolblbdmmiahaaDoor
