/-
  No cell of these rows narrows 'for every input' (looked for: loops, veiled, ifaces, maps, wideKeys, modest, calm, conditions, laid).
  DERIVED. THE GIVEN ROWS OF THIS SEAT. 11 by the template 'for every input the law returns true; each argument reads behind the call as it read before'; 0 by the template 'total and deterministic' (their statements: YtoolblbdmmiahaaTotals.lean).
  GIVEN WITH THE SEED: the statements are not yours to turn. If you find one false, say at which input.
  Laid BY PROGRAM, IN A SANDBOX (cutbox-rows.mjs): the forced cells as the released guide's own fill.sh prints them over the translation 6ecf50a27c693dd0… (all of the seat's roots in one cut). By AI agents, Wed Nov 11 2026. No macro, syntax, notation, axiom, sorry.
-/
import Derived.Test.YtoolblbdmmiahaaChecked
import GoSem.Claim
import GoSem.ClaimJoined
import GoSem.ClaimMapViews
import Derived.JoinedTies
import Derived.KernelRfl
namespace Go.Proofs.Ytoolblbdmmiahaa
/- THE CELL 'sum', in the pinned program and in every row, IS THE sha256 OF THE DUMP (.gsa) THAT YtoolblbdmmiahaaProg.lean LOADS. Nothing in Lean hashes anything: it is a label: what it is worth is what the hold of that sum in a sandbox is worth. -/
noncomputable def Try.pinned : Pinned := { name := "ytoolblbdmmiahaa", sum := "6ecf50a27c693dd03ff5c35a2ab497aac4a83c4d65929c2e42e188be2d75889d", checked := Try.checked }
namespace Rows
def none {H : Type} : Left H := { results := [], args := [] }

/-- 'aflajlaw01.LevelHeights': WHATEVER THE INPUT: true; the input reads as it did. -/
def levelHeightsSpec : ChangeSpec := { name := "levelHeights", fn := fun _ => fun
  | [d1, d2, d3] => { results := [.lit (.bool true)], args := [d1, d2, d3] }
  | _ => none }
def levelHeightsRow : OpenClaim := { program := "ytoolblbdmmiahaa", sum := "6ecf50a27c693dd03ff5c35a2ab497aac4a83c4d65929c2e42e188be2d75889d", func := "aflaj/aflajlaw01.LevelHeights", spec := "levelHeights", unfollowed := true, recurses := true, plainKeys := false, apart := false }
def LevelHeightsSaid : Prop := levelHeightsRow.holds Try.pinned (OpenSpec.ofChange levelHeightsSpec)

/-- ITS FALSE NEIGHBOUR: 'it returns false'. Refute it at one input. -/
def levelHeightsWrong : ChangeSpec := { name := "levelHeights", fn := fun _ => fun
  | [d1, d2, d3] => { results := [.lit (.bool false)], args := [d1, d2, d3] }
  | _ => none }
def LevelHeightsWrongFalsely : Prop := levelHeightsRow.holds Try.pinned (OpenSpec.ofChange levelHeightsWrong)

/-- 'aflajlaw01.LevelLoops': WHATEVER THE INPUT: true; the input reads as it did. -/
def levelLoopsSpec : ChangeSpec := { name := "levelLoops", fn := fun _ => fun
  | [d1, d2] => { results := [.lit (.bool true)], args := [d1, d2] }
  | _ => none }
def levelLoopsRow : OpenClaim := { program := "ytoolblbdmmiahaa", sum := "6ecf50a27c693dd03ff5c35a2ab497aac4a83c4d65929c2e42e188be2d75889d", func := "aflaj/aflajlaw01.LevelLoops", spec := "levelLoops", unfollowed := true, recurses := true, plainKeys := false, apart := false }
def LevelLoopsSaid : Prop := levelLoopsRow.holds Try.pinned (OpenSpec.ofChange levelLoopsSpec)

/-- ITS FALSE NEIGHBOUR: 'it returns false'. Refute it at one input. -/
def levelLoopsWrong : ChangeSpec := { name := "levelLoops", fn := fun _ => fun
  | [d1, d2] => { results := [.lit (.bool false)], args := [d1, d2] }
  | _ => none }
def LevelLoopsWrongFalsely : Prop := levelLoopsRow.holds Try.pinned (OpenSpec.ofChange levelLoopsWrong)

/-- 'aflajlaw01.LevelSlopes': WHATEVER THE INPUT: true; the input reads as it did. -/
def levelSlopesSpec : ChangeSpec := { name := "levelSlopes", fn := fun _ => fun
  | [d1, d2, d3] => { results := [.lit (.bool true)], args := [d1, d2, d3] }
  | _ => none }
def levelSlopesRow : OpenClaim := { program := "ytoolblbdmmiahaa", sum := "6ecf50a27c693dd03ff5c35a2ab497aac4a83c4d65929c2e42e188be2d75889d", func := "aflaj/aflajlaw01.LevelSlopes", spec := "levelSlopes", unfollowed := true, recurses := true, plainKeys := false, apart := false }
def LevelSlopesSaid : Prop := levelSlopesRow.holds Try.pinned (OpenSpec.ofChange levelSlopesSpec)

/-- ITS FALSE NEIGHBOUR: 'it returns false'. Refute it at one input. -/
def levelSlopesWrong : ChangeSpec := { name := "levelSlopes", fn := fun _ => fun
  | [d1, d2, d3] => { results := [.lit (.bool false)], args := [d1, d2, d3] }
  | _ => none }
def LevelSlopesWrongFalsely : Prop := levelSlopesRow.holds Try.pinned (OpenSpec.ofChange levelSlopesWrong)

/-- 'aflajlaw01.LevelTrue': WHATEVER THE INPUT: true; the input reads as it did. -/
def levelTrueSpec : ChangeSpec := { name := "levelTrue", fn := fun _ => fun
  | [d1, d2] => { results := [.lit (.bool true)], args := [d1, d2] }
  | _ => none }
def levelTrueRow : OpenClaim := { program := "ytoolblbdmmiahaa", sum := "6ecf50a27c693dd03ff5c35a2ab497aac4a83c4d65929c2e42e188be2d75889d", func := "aflaj/aflajlaw01.LevelTrue", spec := "levelTrue", unfollowed := true, recurses := true, plainKeys := false, apart := false }
def LevelTrueSaid : Prop := levelTrueRow.holds Try.pinned (OpenSpec.ofChange levelTrueSpec)

/-- ITS FALSE NEIGHBOUR: 'it returns false'. Refute it at one input. -/
def levelTrueWrong : ChangeSpec := { name := "levelTrue", fn := fun _ => fun
  | [d1, d2] => { results := [.lit (.bool false)], args := [d1, d2] }
  | _ => none }
def LevelTrueWrongFalsely : Prop := levelTrueRow.holds Try.pinned (OpenSpec.ofChange levelTrueWrong)

/-- 'aflajlaw01.LevelReached': WHATEVER THE INPUT: true; the input reads as it did. -/
def levelReachedSpec : ChangeSpec := { name := "levelReached", fn := fun _ => fun
  | [d1, d2, d3] => { results := [.lit (.bool true)], args := [d1, d2, d3] }
  | _ => none }
def levelReachedRow : OpenClaim := { program := "ytoolblbdmmiahaa", sum := "6ecf50a27c693dd03ff5c35a2ab497aac4a83c4d65929c2e42e188be2d75889d", func := "aflaj/aflajlaw01.LevelReached", spec := "levelReached", unfollowed := true, recurses := true, plainKeys := false, apart := false }
def LevelReachedSaid : Prop := levelReachedRow.holds Try.pinned (OpenSpec.ofChange levelReachedSpec)

/-- ITS FALSE NEIGHBOUR: 'it returns false'. Refute it at one input. -/
def levelReachedWrong : ChangeSpec := { name := "levelReached", fn := fun _ => fun
  | [d1, d2, d3] => { results := [.lit (.bool false)], args := [d1, d2, d3] }
  | _ => none }
def LevelReachedWrongFalsely : Prop := levelReachedRow.holds Try.pinned (OpenSpec.ofChange levelReachedWrong)

/-- 'aflajlaw01.LevelNamed': WHATEVER THE INPUT: true; the input reads as it did. -/
def levelNamedSpec : ChangeSpec := { name := "levelNamed", fn := fun _ => fun
  | [d1, d2] => { results := [.lit (.bool true)], args := [d1, d2] }
  | _ => none }
def levelNamedRow : OpenClaim := { program := "ytoolblbdmmiahaa", sum := "6ecf50a27c693dd03ff5c35a2ab497aac4a83c4d65929c2e42e188be2d75889d", func := "aflaj/aflajlaw01.LevelNamed", spec := "levelNamed", unfollowed := true, recurses := true, plainKeys := false, apart := false }
def LevelNamedSaid : Prop := levelNamedRow.holds Try.pinned (OpenSpec.ofChange levelNamedSpec)

/-- ITS FALSE NEIGHBOUR: 'it returns false'. Refute it at one input. -/
def levelNamedWrong : ChangeSpec := { name := "levelNamed", fn := fun _ => fun
  | [d1, d2] => { results := [.lit (.bool false)], args := [d1, d2] }
  | _ => none }
def LevelNamedWrongFalsely : Prop := levelNamedRow.holds Try.pinned (OpenSpec.ofChange levelNamedWrong)

/-- 'aflajlaw01.LevelLoop': WHATEVER THE INPUT: true; the input reads as it did. -/
def levelLoopSpec : ChangeSpec := { name := "levelLoop", fn := fun _ => fun
  | [d1, d2] => { results := [.lit (.bool true)], args := [d1, d2] }
  | _ => none }
def levelLoopRow : OpenClaim := { program := "ytoolblbdmmiahaa", sum := "6ecf50a27c693dd03ff5c35a2ab497aac4a83c4d65929c2e42e188be2d75889d", func := "aflaj/aflajlaw01.LevelLoop", spec := "levelLoop", unfollowed := true, recurses := true, plainKeys := false, apart := false }
def LevelLoopSaid : Prop := levelLoopRow.holds Try.pinned (OpenSpec.ofChange levelLoopSpec)

/-- ITS FALSE NEIGHBOUR: 'it returns false'. Refute it at one input. -/
def levelLoopWrong : ChangeSpec := { name := "levelLoop", fn := fun _ => fun
  | [d1, d2] => { results := [.lit (.bool false)], args := [d1, d2] }
  | _ => none }
def LevelLoopWrongFalsely : Prop := levelLoopRow.holds Try.pinned (OpenSpec.ofChange levelLoopWrong)

/-- 'aflajlaw01.LevelLeast': WHATEVER THE INPUT: true; the input reads as it did. -/
def levelLeastSpec : ChangeSpec := { name := "levelLeast", fn := fun _ => fun
  | [d1, d2, d3] => { results := [.lit (.bool true)], args := [d1, d2, d3] }
  | _ => none }
def levelLeastRow : OpenClaim := { program := "ytoolblbdmmiahaa", sum := "6ecf50a27c693dd03ff5c35a2ab497aac4a83c4d65929c2e42e188be2d75889d", func := "aflaj/aflajlaw01.LevelLeast", spec := "levelLeast", unfollowed := true, recurses := true, plainKeys := false, apart := false }
def LevelLeastSaid : Prop := levelLeastRow.holds Try.pinned (OpenSpec.ofChange levelLeastSpec)

/-- ITS FALSE NEIGHBOUR: 'it returns false'. Refute it at one input. -/
def levelLeastWrong : ChangeSpec := { name := "levelLeast", fn := fun _ => fun
  | [d1, d2, d3] => { results := [.lit (.bool false)], args := [d1, d2, d3] }
  | _ => none }
def LevelLeastWrongFalsely : Prop := levelLeastRow.holds Try.pinned (OpenSpec.ofChange levelLeastWrong)

/-- 'aflajlaw01.LevelMore': WHATEVER THE INPUT: true; the input reads as it did. -/
def levelMoreSpec : ChangeSpec := { name := "levelMore", fn := fun _ => fun
  | [d1, d2, d3] => { results := [.lit (.bool true)], args := [d1, d2, d3] }
  | _ => none }
def levelMoreRow : OpenClaim := { program := "ytoolblbdmmiahaa", sum := "6ecf50a27c693dd03ff5c35a2ab497aac4a83c4d65929c2e42e188be2d75889d", func := "aflaj/aflajlaw01.LevelMore", spec := "levelMore", unfollowed := true, recurses := true, plainKeys := false, apart := false }
def LevelMoreSaid : Prop := levelMoreRow.holds Try.pinned (OpenSpec.ofChange levelMoreSpec)

/-- ITS FALSE NEIGHBOUR: 'it returns false'. Refute it at one input. -/
def levelMoreWrong : ChangeSpec := { name := "levelMore", fn := fun _ => fun
  | [d1, d2, d3] => { results := [.lit (.bool false)], args := [d1, d2, d3] }
  | _ => none }
def LevelMoreWrongFalsely : Prop := levelMoreRow.holds Try.pinned (OpenSpec.ofChange levelMoreWrong)

/-- 'aflajlaw01.LevelSums': WHATEVER THE INPUT: true; the input reads as it did. -/
def levelSumsSpec : ChangeSpec := { name := "levelSums", fn := fun _ => fun
  | [d1, d2, d3, d4] => { results := [.lit (.bool true)], args := [d1, d2, d3, d4] }
  | _ => none }
def levelSumsRow : OpenClaim := { program := "ytoolblbdmmiahaa", sum := "6ecf50a27c693dd03ff5c35a2ab497aac4a83c4d65929c2e42e188be2d75889d", func := "aflaj/aflajlaw01.LevelSums", spec := "levelSums", unfollowed := true, recurses := true, plainKeys := false, apart := false }
def LevelSumsSaid : Prop := levelSumsRow.holds Try.pinned (OpenSpec.ofChange levelSumsSpec)

/-- ITS FALSE NEIGHBOUR: 'it returns false'. Refute it at one input. -/
def levelSumsWrong : ChangeSpec := { name := "levelSums", fn := fun _ => fun
  | [d1, d2, d3, d4] => { results := [.lit (.bool false)], args := [d1, d2, d3, d4] }
  | _ => none }
def LevelSumsWrongFalsely : Prop := levelSumsRow.holds Try.pinned (OpenSpec.ofChange levelSumsWrong)

/-- 'aflajlaw01.LevelThread': WHATEVER THE INPUT: true; the input reads as it did. -/
def levelThreadSpec : ChangeSpec := { name := "levelThread", fn := fun _ => fun
  | [d1, d2, d3] => { results := [.lit (.bool true)], args := [d1, d2, d3] }
  | _ => none }
def levelThreadRow : OpenClaim := { program := "ytoolblbdmmiahaa", sum := "6ecf50a27c693dd03ff5c35a2ab497aac4a83c4d65929c2e42e188be2d75889d", func := "aflaj/aflajlaw01.LevelThread", spec := "levelThread", unfollowed := true, recurses := true, plainKeys := false, apart := false }
def LevelThreadSaid : Prop := levelThreadRow.holds Try.pinned (OpenSpec.ofChange levelThreadSpec)

/-- ITS FALSE NEIGHBOUR: 'it returns false'. Refute it at one input. -/
def levelThreadWrong : ChangeSpec := { name := "levelThread", fn := fun _ => fun
  | [d1, d2, d3] => { results := [.lit (.bool false)], args := [d1, d2, d3] }
  | _ => none }
def LevelThreadWrongFalsely : Prop := levelThreadRow.holds Try.pinned (OpenSpec.ofChange levelThreadWrong)

/- THE SECOND FORM. 'bulk': how many values and letters a reading holds, each counted each time it is reached (what is shared counts as often as it is met; a slice's spare places count too). A statement '..UptoSaid' is the law's where the arguments, and the package variables that the reading takes, are together of bulk at most 1048576: NARROWER than '..Said'. Prove '..Said' where nothing that the law and all that it calls make is longer than what came in: it says more and counts as full. Else prove '..UptoSaid'. A law counts once. -/
mutual
def uptoBulk {H : Type} : DataW H → Nat
  | .lit (.string bytes) => bytes.length + 1
  | .lit _ => 1
  | .nil => 1
  | .ptr d => uptoBulk d + 1
  | .slice elems spare => uptoBulkAll elems + uptoBulkAll spare + 1
  | .agg parts => uptoBulkAll parts + 1
  | .iface _ d => uptoBulk d + 1
  | .map entries => uptoBulkEntries entries + 1
  | .held _ => 1
def uptoBulkAll {H : Type} : List (DataW H) → Nat
  | [] => 0
  | d :: r => uptoBulk d + uptoBulkAll r
def uptoBulkEntries {H : Type} : List (Lit × DataW H) → Nat
  | [] => 0
  | x :: r => uptoBulkEntry x + uptoBulkEntries r
def uptoBulkEntry {H : Type} : Lit × DataW H → Nat
  | (.string bytes, d) => bytes.length + uptoBulk d + 1
  | (_, d) => uptoBulk d + 1
 end
def uptoSmall : (H : Type) → List (DataW H) → Bool := fun _ ds => decide (uptoBulkAll ds ≤ 1048576)
def OpenSpec.upto (s : _root_.Go.ChangeSpec) : _root_.Go.OpenSpec := { _root_.Go.OpenSpec.ofChange s with cond := some uptoSmall }

/-- 'aflajlaw01.LevelHeights', WHERE WHAT IT READS IS OF BULK AT MOST 1048576: true; the input reads as it did. -/
def levelHeightsUptoRow : OpenClaim := { program := "ytoolblbdmmiahaa", sum := "6ecf50a27c693dd03ff5c35a2ab497aac4a83c4d65929c2e42e188be2d75889d", func := "aflaj/aflajlaw01.LevelHeights", spec := "levelHeights", unfollowed := true, recurses := true, plainKeys := false, apart := false, narrowed := true }
def LevelHeightsUptoSaid : Prop := levelHeightsUptoRow.holds Try.pinned (OpenSpec.upto levelHeightsSpec)

/-- 'aflajlaw01.LevelLoops', WHERE WHAT IT READS IS OF BULK AT MOST 1048576: true; the input reads as it did. -/
def levelLoopsUptoRow : OpenClaim := { program := "ytoolblbdmmiahaa", sum := "6ecf50a27c693dd03ff5c35a2ab497aac4a83c4d65929c2e42e188be2d75889d", func := "aflaj/aflajlaw01.LevelLoops", spec := "levelLoops", unfollowed := true, recurses := true, plainKeys := false, apart := false, narrowed := true }
def LevelLoopsUptoSaid : Prop := levelLoopsUptoRow.holds Try.pinned (OpenSpec.upto levelLoopsSpec)

/-- 'aflajlaw01.LevelSlopes', WHERE WHAT IT READS IS OF BULK AT MOST 1048576: true; the input reads as it did. -/
def levelSlopesUptoRow : OpenClaim := { program := "ytoolblbdmmiahaa", sum := "6ecf50a27c693dd03ff5c35a2ab497aac4a83c4d65929c2e42e188be2d75889d", func := "aflaj/aflajlaw01.LevelSlopes", spec := "levelSlopes", unfollowed := true, recurses := true, plainKeys := false, apart := false, narrowed := true }
def LevelSlopesUptoSaid : Prop := levelSlopesUptoRow.holds Try.pinned (OpenSpec.upto levelSlopesSpec)

/-- 'aflajlaw01.LevelTrue', WHERE WHAT IT READS IS OF BULK AT MOST 1048576: true; the input reads as it did. -/
def levelTrueUptoRow : OpenClaim := { program := "ytoolblbdmmiahaa", sum := "6ecf50a27c693dd03ff5c35a2ab497aac4a83c4d65929c2e42e188be2d75889d", func := "aflaj/aflajlaw01.LevelTrue", spec := "levelTrue", unfollowed := true, recurses := true, plainKeys := false, apart := false, narrowed := true }
def LevelTrueUptoSaid : Prop := levelTrueUptoRow.holds Try.pinned (OpenSpec.upto levelTrueSpec)

/-- 'aflajlaw01.LevelReached', WHERE WHAT IT READS IS OF BULK AT MOST 1048576: true; the input reads as it did. -/
def levelReachedUptoRow : OpenClaim := { program := "ytoolblbdmmiahaa", sum := "6ecf50a27c693dd03ff5c35a2ab497aac4a83c4d65929c2e42e188be2d75889d", func := "aflaj/aflajlaw01.LevelReached", spec := "levelReached", unfollowed := true, recurses := true, plainKeys := false, apart := false, narrowed := true }
def LevelReachedUptoSaid : Prop := levelReachedUptoRow.holds Try.pinned (OpenSpec.upto levelReachedSpec)

/-- 'aflajlaw01.LevelNamed', WHERE WHAT IT READS IS OF BULK AT MOST 1048576: true; the input reads as it did. -/
def levelNamedUptoRow : OpenClaim := { program := "ytoolblbdmmiahaa", sum := "6ecf50a27c693dd03ff5c35a2ab497aac4a83c4d65929c2e42e188be2d75889d", func := "aflaj/aflajlaw01.LevelNamed", spec := "levelNamed", unfollowed := true, recurses := true, plainKeys := false, apart := false, narrowed := true }
def LevelNamedUptoSaid : Prop := levelNamedUptoRow.holds Try.pinned (OpenSpec.upto levelNamedSpec)

/-- 'aflajlaw01.LevelLoop', WHERE WHAT IT READS IS OF BULK AT MOST 1048576: true; the input reads as it did. -/
def levelLoopUptoRow : OpenClaim := { program := "ytoolblbdmmiahaa", sum := "6ecf50a27c693dd03ff5c35a2ab497aac4a83c4d65929c2e42e188be2d75889d", func := "aflaj/aflajlaw01.LevelLoop", spec := "levelLoop", unfollowed := true, recurses := true, plainKeys := false, apart := false, narrowed := true }
def LevelLoopUptoSaid : Prop := levelLoopUptoRow.holds Try.pinned (OpenSpec.upto levelLoopSpec)

/-- 'aflajlaw01.LevelLeast', WHERE WHAT IT READS IS OF BULK AT MOST 1048576: true; the input reads as it did. -/
def levelLeastUptoRow : OpenClaim := { program := "ytoolblbdmmiahaa", sum := "6ecf50a27c693dd03ff5c35a2ab497aac4a83c4d65929c2e42e188be2d75889d", func := "aflaj/aflajlaw01.LevelLeast", spec := "levelLeast", unfollowed := true, recurses := true, plainKeys := false, apart := false, narrowed := true }
def LevelLeastUptoSaid : Prop := levelLeastUptoRow.holds Try.pinned (OpenSpec.upto levelLeastSpec)

/-- 'aflajlaw01.LevelMore', WHERE WHAT IT READS IS OF BULK AT MOST 1048576: true; the input reads as it did. -/
def levelMoreUptoRow : OpenClaim := { program := "ytoolblbdmmiahaa", sum := "6ecf50a27c693dd03ff5c35a2ab497aac4a83c4d65929c2e42e188be2d75889d", func := "aflaj/aflajlaw01.LevelMore", spec := "levelMore", unfollowed := true, recurses := true, plainKeys := false, apart := false, narrowed := true }
def LevelMoreUptoSaid : Prop := levelMoreUptoRow.holds Try.pinned (OpenSpec.upto levelMoreSpec)

/-- 'aflajlaw01.LevelSums', WHERE WHAT IT READS IS OF BULK AT MOST 1048576: true; the input reads as it did. -/
def levelSumsUptoRow : OpenClaim := { program := "ytoolblbdmmiahaa", sum := "6ecf50a27c693dd03ff5c35a2ab497aac4a83c4d65929c2e42e188be2d75889d", func := "aflaj/aflajlaw01.LevelSums", spec := "levelSums", unfollowed := true, recurses := true, plainKeys := false, apart := false, narrowed := true }
def LevelSumsUptoSaid : Prop := levelSumsUptoRow.holds Try.pinned (OpenSpec.upto levelSumsSpec)

/-- 'aflajlaw01.LevelThread', WHERE WHAT IT READS IS OF BULK AT MOST 1048576: true; the input reads as it did. -/
def levelThreadUptoRow : OpenClaim := { program := "ytoolblbdmmiahaa", sum := "6ecf50a27c693dd03ff5c35a2ab497aac4a83c4d65929c2e42e188be2d75889d", func := "aflaj/aflajlaw01.LevelThread", spec := "levelThread", unfollowed := true, recurses := true, plainKeys := false, apart := false, narrowed := true }
def LevelThreadUptoSaid : Prop := levelThreadUptoRow.holds Try.pinned (OpenSpec.upto levelThreadSpec)

end Rows
end Go.Proofs.Ytoolblbdmmiahaa
