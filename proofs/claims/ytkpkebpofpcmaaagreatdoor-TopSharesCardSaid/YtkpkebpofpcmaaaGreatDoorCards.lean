/-
  DERIVED. GIVEN WITH THE SEED: THE CARDS: each row of YtkpkebpofpcmaaaGreatDoorRows.lean that lists a variable, with what it lists TIED to the program's text (the seventh form; the later family's looks); each row that meets fmt, with fmt's text TOLD by the authors' own Lean function (tested against real Go, not proved from fmt's source: count such statements apart). THE CARD IS WHAT COUNTS. Prove the row's statement (the work); the ties are given (YtkpkebpofpcmaaaGreatDoorTie.lean); close each card by the builder's one call (the guide's Derived/Test/ToyasCard.lean, 'card_holds'). Laid BY PROGRAM, IN A SANDBOX (cutbox-door.mjs). By AI agents, Wed Nov 11 2026. No macro, syntax, notation, axiom, sorry.
-/
import Derived.Test.YtkpkebpofpcmaaaGreatDoorRows
import GoSem.ClaimSeven
namespace Go.Proofs.YtkpkebpofpcmaaaGreatDoor
namespace Rows

/-- THE TIED CARD OF 'aflajtop.TopWatch'. -/
def topWatchCard : Claim7 := { stood := { row := topWatchRow, standIns := [], harness := (true, "606ca307c1b42b2983f006aecca6a8bdae1d51c889ed0397e2683a002f97e551"), looks := true }, kinds := [], alts := [], laidByText := true, laidKinds := [.data], laidTests := true, laidLooks := .later }
def TopWatchCardSaid : Prop := Claim7.holds Tryz.pinned (.plain (OpenSpec.ofChange topWatchSpec)) topWatchCard

/-- THE TIED CARD OF 'aflajtop.TopBowlful'. -/
def topBowlfulCard : Claim7 := { stood := { row := topBowlfulRow, standIns := [], harness := (true, "606ca307c1b42b2983f006aecca6a8bdae1d51c889ed0397e2683a002f97e551"), looks := true }, kinds := [], alts := [], laidByText := true, laidKinds := [.data], laidTests := true, laidLooks := .later }
def TopBowlfulCardSaid : Prop := Claim7.holds Tryz.pinned (.plain (OpenSpec.ofChange topBowlfulSpec)) topBowlfulCard

/-- THE TIED CARD OF 'aflajtop.TopTold'. -/
def topToldCard : Claim7 := { stood := { row := topToldRow, standIns := [], harness := (true, "606ca307c1b42b2983f006aecca6a8bdae1d51c889ed0397e2683a002f97e551"), looks := true }, kinds := [], alts := [], laidByText := true, laidKinds := [.data], laidTests := true, laidLooks := .later }
def TopToldCardSaid : Prop := Claim7.holds Tryz.pinned (.plain (OpenSpec.ofChange topToldSpec)) topToldCard

/-- THE TIED CARD OF 'aflajtop.TopShares'. -/
def topSharesCard : Claim7 := { stood := { row := topSharesRow, standIns := [], harness := (true, "606ca307c1b42b2983f006aecca6a8bdae1d51c889ed0397e2683a002f97e551"), looks := true }, kinds := [], alts := [], laidByText := true, laidKinds := [.data], laidTests := true, laidLooks := .later }
def TopSharesCardSaid : Prop := Claim7.holds Tryz.pinned (.plain (OpenSpec.ofChange topSharesSpec)) topSharesCard

/-- THE SECOND FORM's CARD OF 'aflajtop.TopWatch'. -/
def topWatchUptoCard : Claim7 := { stood := { row := topWatchUptoRow, standIns := [], harness := (true, "606ca307c1b42b2983f006aecca6a8bdae1d51c889ed0397e2683a002f97e551"), looks := true }, kinds := [], alts := [], laidByText := true, laidKinds := [.data], laidTests := true, laidLooks := .later }
def TopWatchUptoCardSaid : Prop := Claim7.holds Tryz.pinned (.plain (OpenSpec.upto topWatchSpec)) topWatchUptoCard

/-- THE SECOND FORM's CARD OF 'aflajtop.TopBowlful'. -/
def topBowlfulUptoCard : Claim7 := { stood := { row := topBowlfulUptoRow, standIns := [], harness := (true, "606ca307c1b42b2983f006aecca6a8bdae1d51c889ed0397e2683a002f97e551"), looks := true }, kinds := [], alts := [], laidByText := true, laidKinds := [.data], laidTests := true, laidLooks := .later }
def TopBowlfulUptoCardSaid : Prop := Claim7.holds Tryz.pinned (.plain (OpenSpec.upto topBowlfulSpec)) topBowlfulUptoCard

/-- THE SECOND FORM's CARD OF 'aflajtop.TopTold'. -/
def topToldUptoCard : Claim7 := { stood := { row := topToldUptoRow, standIns := [], harness := (true, "606ca307c1b42b2983f006aecca6a8bdae1d51c889ed0397e2683a002f97e551"), looks := true }, kinds := [], alts := [], laidByText := true, laidKinds := [.data], laidTests := true, laidLooks := .later }
def TopToldUptoCardSaid : Prop := Claim7.holds Tryz.pinned (.plain (OpenSpec.upto topToldSpec)) topToldUptoCard

/-- THE SECOND FORM's CARD OF 'aflajtop.TopShares'. -/
def topSharesUptoCard : Claim7 := { stood := { row := topSharesUptoRow, standIns := [], harness := (true, "606ca307c1b42b2983f006aecca6a8bdae1d51c889ed0397e2683a002f97e551"), looks := true }, kinds := [], alts := [], laidByText := true, laidKinds := [.data], laidTests := true, laidLooks := .later }
def TopSharesUptoCardSaid : Prop := Claim7.holds Tryz.pinned (.plain (OpenSpec.upto topSharesSpec)) topSharesUptoCard
end Rows
end Go.Proofs.YtkpkebpofpcmaaaGreatDoor
