/-
  NARROWER THAN 'FOR EVERY INPUT', by the rows' own cells (each row's printed sentence says how): TopWatch: laid · TopBowlful: laid · TopTold: laid · TopShares: laid.
  DERIVED. THE GIVEN ROWS OF THIS SEAT. 4 by the template 'for every input the law returns true; each argument reads behind the call as it read before'; 0 by the template 'total and deterministic' (their statements: YtkpkebpofpcmaaaGreatDoorTotals.lean).
  GIVEN WITH THE SEED: the statements are not yours to turn. If you find one false, say at which input.
  Laid BY PROGRAM, IN A SANDBOX (cutbox-rows.mjs): the forced cells as the released guide's own fill.sh prints them over the translation 09d7f7ce7ffa625f… (all of the seat's roots in one cut). By AI agents, Wed Nov 11 2026. No macro, syntax, notation, axiom, sorry.
-/
import Derived.Test.YtkpkebpofpcmaaaGreatDoorChecked
import GoSem.Claim
import GoSem.ClaimJoined
import GoSem.ClaimMapViews
import Derived.JoinedTies
import Derived.KernelRfl
namespace Go.Proofs.YtkpkebpofpcmaaaGreatDoor
/- THE CELL 'sum', in the pinned program and in every row, IS THE sha256 OF THE DUMP (.gsa) THAT YtkpkebpofpcmaaaGreatDoorProg.lean LOADS. Nothing in Lean hashes anything: it is a label: what it is worth is what the hold of that sum in a sandbox is worth. -/
noncomputable def Tryz.pinned : Pinned := { name := "ytkpkebpofpcmaaagreatdoor", sum := "09d7f7ce7ffa625fd29f17d7fb2d81df6a557e1543ff7636ca245435584f06cf", checked := Tryz.checked }
namespace Rows
def none {H : Type} : Left H := { results := [], args := [] }

/- WHAT THE LISTED PACKAGE-LEVEL VARIABLES READ AS WHEN THE CALL BEGINS. Each datum BY PROGRAM (the guide's laid-datum.mjs) off the statement by which the dump's own 'gosem.cut.vars' lays the variable. In a bare row this is a premise. The card (YtkpkebpofpcmaaaGreatDoorCards.lean) ties it to the program's text. -/
def laid_aflaj_hour_never {H : Type} : DataW H := .agg [.lit (.int .i64 1), .lit (.int .i64 0)]

/-- 'aflajtop.TopWatch': WHATEVER THE INPUT: true; the input reads as it did. -/
def topWatchSpec : ChangeSpec := { name := "topWatch", fn := fun _ => fun
  | [d1, d2, d3, d4, d5] => { results := [.lit (.bool true)], args := [d1, d2, d3, d4, d5] }
  | _ => none }
def topWatchRow : OpenClaim := { program := "ytkpkebpofpcmaaagreatdoor", sum := "09d7f7ce7ffa625fd29f17d7fb2d81df6a557e1543ff7636ca245435584f06cf", func := "aflaj/aflajtop.TopWatch", spec := "topWatch", inPlace := ["slices.overlaps[aflaj/deed.piece]"], unfollowed := true, recurses := true, named := ["aflaj/hour.never"], apart := false, laid := [("aflaj/hour.never", laid_aflaj_hour_never)] }
def TopWatchSaid : Prop := topWatchRow.holds Tryz.pinned (OpenSpec.ofChange topWatchSpec)

/-- ITS FALSE NEIGHBOUR: 'it returns false'. Refute it at one input. -/
def topWatchWrong : ChangeSpec := { name := "topWatch", fn := fun _ => fun
  | [d1, d2, d3, d4, d5] => { results := [.lit (.bool false)], args := [d1, d2, d3, d4, d5] }
  | _ => none }
def TopWatchWrongFalsely : Prop := topWatchRow.holds Tryz.pinned (OpenSpec.ofChange topWatchWrong)

/-- 'aflajtop.TopBowlful': WHATEVER THE INPUT: true; the input reads as it did. -/
def topBowlfulSpec : ChangeSpec := { name := "topBowlful", fn := fun _ => fun
  | [d1, d2, d3, d4, d5] => { results := [.lit (.bool true)], args := [d1, d2, d3, d4, d5] }
  | _ => none }
def topBowlfulRow : OpenClaim := { program := "ytkpkebpofpcmaaagreatdoor", sum := "09d7f7ce7ffa625fd29f17d7fb2d81df6a557e1543ff7636ca245435584f06cf", func := "aflaj/aflajtop.TopBowlful", spec := "topBowlful", inPlace := ["slices.overlaps[aflaj/deed.piece]"], unfollowed := true, recurses := true, named := ["aflaj/hour.never"], apart := false, laid := [("aflaj/hour.never", laid_aflaj_hour_never)] }
def TopBowlfulSaid : Prop := topBowlfulRow.holds Tryz.pinned (OpenSpec.ofChange topBowlfulSpec)

/-- ITS FALSE NEIGHBOUR: 'it returns false'. Refute it at one input. -/
def topBowlfulWrong : ChangeSpec := { name := "topBowlful", fn := fun _ => fun
  | [d1, d2, d3, d4, d5] => { results := [.lit (.bool false)], args := [d1, d2, d3, d4, d5] }
  | _ => none }
def TopBowlfulWrongFalsely : Prop := topBowlfulRow.holds Tryz.pinned (OpenSpec.ofChange topBowlfulWrong)

/-- 'aflajtop.TopTold': WHATEVER THE INPUT: true; the input reads as it did. -/
def topToldSpec : ChangeSpec := { name := "topTold", fn := fun _ => fun
  | [d1, d2, d3, d4, d5, d6] => { results := [.lit (.bool true)], args := [d1, d2, d3, d4, d5, d6] }
  | _ => none }
def topToldRow : OpenClaim := { program := "ytkpkebpofpcmaaagreatdoor", sum := "09d7f7ce7ffa625fd29f17d7fb2d81df6a557e1543ff7636ca245435584f06cf", func := "aflaj/aflajtop.TopTold", spec := "topTold", inPlace := ["slices.overlaps[aflaj/deed.piece]"], unfollowed := true, recurses := true, named := ["aflaj/hour.never"], apart := false, laid := [("aflaj/hour.never", laid_aflaj_hour_never)] }
def TopToldSaid : Prop := topToldRow.holds Tryz.pinned (OpenSpec.ofChange topToldSpec)

/-- ITS FALSE NEIGHBOUR: 'it returns false'. Refute it at one input. -/
def topToldWrong : ChangeSpec := { name := "topTold", fn := fun _ => fun
  | [d1, d2, d3, d4, d5, d6] => { results := [.lit (.bool false)], args := [d1, d2, d3, d4, d5, d6] }
  | _ => none }
def TopToldWrongFalsely : Prop := topToldRow.holds Tryz.pinned (OpenSpec.ofChange topToldWrong)

/-- 'aflajtop.TopShares': WHATEVER THE INPUT: true; the input reads as it did. -/
def topSharesSpec : ChangeSpec := { name := "topShares", fn := fun _ => fun
  | [d1, d2, d3, d4, d5, d6] => { results := [.lit (.bool true)], args := [d1, d2, d3, d4, d5, d6] }
  | _ => none }
def topSharesRow : OpenClaim := { program := "ytkpkebpofpcmaaagreatdoor", sum := "09d7f7ce7ffa625fd29f17d7fb2d81df6a557e1543ff7636ca245435584f06cf", func := "aflaj/aflajtop.TopShares", spec := "topShares", inPlace := ["slices.overlaps[aflaj/deed.piece]"], unfollowed := true, recurses := true, named := ["aflaj/hour.never"], apart := false, laid := [("aflaj/hour.never", laid_aflaj_hour_never)] }
def TopSharesSaid : Prop := topSharesRow.holds Tryz.pinned (OpenSpec.ofChange topSharesSpec)

/-- ITS FALSE NEIGHBOUR: 'it returns false'. Refute it at one input. -/
def topSharesWrong : ChangeSpec := { name := "topShares", fn := fun _ => fun
  | [d1, d2, d3, d4, d5, d6] => { results := [.lit (.bool false)], args := [d1, d2, d3, d4, d5, d6] }
  | _ => none }
def TopSharesWrongFalsely : Prop := topSharesRow.holds Tryz.pinned (OpenSpec.ofChange topSharesWrong)

/- THE SECOND FORM. 'bulk': how many values and letters a reading holds, each counted each time it is reached (what is shared counts as often as it is met; a slice's spare places count too). A statement '..UptoSaid' is the law's where the arguments, and the package variables that the reading takes, are together of bulk at most 1048576: NARROWER than '..Said'. Prove '..Said' where nothing that the law and all that it calls make is longer than what came in: it says more and counts as full. Else prove '..UptoSaid'. A law counts once. -/
mutual
def uptoBulk {H : Type} : DataW H → Nat
  | .lit (.string bytes) => bytes.length + 1
  | .lit _ => 1
  | .nil => 1
  | .ptr d => uptoBulk d + 1
  | .slice elems spare => uptoBulkAll elems + uptoBulkAll spare + 1
  | .agg parts => uptoBulkAll parts + 1
  | .iface _ d => uptoBulk d + 1
  | .map entries => uptoBulkEntries entries + 1
  | .held _ => 1
def uptoBulkAll {H : Type} : List (DataW H) → Nat
  | [] => 0
  | d :: r => uptoBulk d + uptoBulkAll r
def uptoBulkEntries {H : Type} : List (Lit × DataW H) → Nat
  | [] => 0
  | x :: r => uptoBulkEntry x + uptoBulkEntries r
def uptoBulkEntry {H : Type} : Lit × DataW H → Nat
  | (.string bytes, d) => bytes.length + uptoBulk d + 1
  | (_, d) => uptoBulk d + 1
 end
def uptoSmall : (H : Type) → List (DataW H) → Bool := fun _ ds => decide (uptoBulkAll ds ≤ 1048576)
def OpenSpec.upto (s : _root_.Go.ChangeSpec) : _root_.Go.OpenSpec := { _root_.Go.OpenSpec.ofChange s with cond := some uptoSmall }

/-- 'aflajtop.TopWatch', WHERE WHAT IT READS IS OF BULK AT MOST 1048576: true; the input reads as it did. -/
def topWatchUptoRow : OpenClaim := { program := "ytkpkebpofpcmaaagreatdoor", sum := "09d7f7ce7ffa625fd29f17d7fb2d81df6a557e1543ff7636ca245435584f06cf", func := "aflaj/aflajtop.TopWatch", spec := "topWatch", inPlace := ["slices.overlaps[aflaj/deed.piece]"], unfollowed := true, recurses := true, named := ["aflaj/hour.never"], apart := false, laid := [("aflaj/hour.never", laid_aflaj_hour_never)], narrowed := true }
def TopWatchUptoSaid : Prop := topWatchUptoRow.holds Tryz.pinned (OpenSpec.upto topWatchSpec)

/-- 'aflajtop.TopBowlful', WHERE WHAT IT READS IS OF BULK AT MOST 1048576: true; the input reads as it did. -/
def topBowlfulUptoRow : OpenClaim := { program := "ytkpkebpofpcmaaagreatdoor", sum := "09d7f7ce7ffa625fd29f17d7fb2d81df6a557e1543ff7636ca245435584f06cf", func := "aflaj/aflajtop.TopBowlful", spec := "topBowlful", inPlace := ["slices.overlaps[aflaj/deed.piece]"], unfollowed := true, recurses := true, named := ["aflaj/hour.never"], apart := false, laid := [("aflaj/hour.never", laid_aflaj_hour_never)], narrowed := true }
def TopBowlfulUptoSaid : Prop := topBowlfulUptoRow.holds Tryz.pinned (OpenSpec.upto topBowlfulSpec)

/-- 'aflajtop.TopTold', WHERE WHAT IT READS IS OF BULK AT MOST 1048576: true; the input reads as it did. -/
def topToldUptoRow : OpenClaim := { program := "ytkpkebpofpcmaaagreatdoor", sum := "09d7f7ce7ffa625fd29f17d7fb2d81df6a557e1543ff7636ca245435584f06cf", func := "aflaj/aflajtop.TopTold", spec := "topTold", inPlace := ["slices.overlaps[aflaj/deed.piece]"], unfollowed := true, recurses := true, named := ["aflaj/hour.never"], apart := false, laid := [("aflaj/hour.never", laid_aflaj_hour_never)], narrowed := true }
def TopToldUptoSaid : Prop := topToldUptoRow.holds Tryz.pinned (OpenSpec.upto topToldSpec)

/-- 'aflajtop.TopShares', WHERE WHAT IT READS IS OF BULK AT MOST 1048576: true; the input reads as it did. -/
def topSharesUptoRow : OpenClaim := { program := "ytkpkebpofpcmaaagreatdoor", sum := "09d7f7ce7ffa625fd29f17d7fb2d81df6a557e1543ff7636ca245435584f06cf", func := "aflaj/aflajtop.TopShares", spec := "topShares", inPlace := ["slices.overlaps[aflaj/deed.piece]"], unfollowed := true, recurses := true, named := ["aflaj/hour.never"], apart := false, laid := [("aflaj/hour.never", laid_aflaj_hour_never)], narrowed := true }
def TopSharesUptoSaid : Prop := topSharesUptoRow.holds Tryz.pinned (OpenSpec.upto topSharesSpec)

end Rows
end Go.Proofs.YtkpkebpofpcmaaaGreatDoor
