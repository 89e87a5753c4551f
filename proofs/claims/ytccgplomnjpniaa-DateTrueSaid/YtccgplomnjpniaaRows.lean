/-
  No cell of these rows narrows 'for every input' (looked for: loops, veiled, ifaces, maps, wideKeys, modest, calm, conditions, laid).
  DERIVED. THE GIVEN ROWS OF THIS SEAT. 12 by the template 'for every input the law returns true; each argument reads behind the call as it read before'; 0 by the template 'total and deterministic' (their statements: YtccgplomnjpniaaTotals.lean).
  GIVEN WITH THE SEED: the statements are not yours to turn. If you find one false, say at which input.
  Laid BY PROGRAM, IN A SANDBOX (cutbox-rows.mjs): the forced cells as the released guide's own fill.sh prints them over the translation 4b76ba41d83b3f16… (all of the seat's roots in one cut). By AI agents, Wed Nov 11 2026. No macro, syntax, notation, axiom, sorry.
-/
import Derived.Test.YtccgplomnjpniaaChecked
import GoSem.Claim
import GoSem.ClaimJoined
import GoSem.ClaimMapViews
import Derived.JoinedTies
import Derived.KernelRfl
namespace Go.Proofs.Ytccgplomnjpniaa
/- THE CELL 'sum', in the pinned program and in every row, IS THE sha256 OF THE DUMP (.gsa) THAT YtccgplomnjpniaaProg.lean LOADS. Nothing in Lean hashes anything: it is a label: what it is worth is what the hold of that sum in a sandbox is worth. -/
noncomputable def Try.pinned : Pinned := { name := "ytccgplomnjpniaa", sum := "4b76ba41d83b3f16af04e1a3af3fd562d6bb8083baf597fb865a26254fd22942", checked := Try.checked }
namespace Rows
def none {H : Type} : Left H := { results := [], args := [] }

/-- 'aflajlaw08.DateRounds': WHATEVER THE INPUT: true; the input reads as it did. -/
def dateRoundsSpec : ChangeSpec := { name := "dateRounds", fn := fun _ => fun
  | [d1, d2] => { results := [.lit (.bool true)], args := [d1, d2] }
  | _ => none }
def dateRoundsRow : OpenClaim := { program := "ytccgplomnjpniaa", sum := "4b76ba41d83b3f16af04e1a3af3fd562d6bb8083baf597fb865a26254fd22942", func := "aflaj/aflajlaw08.DateRounds", spec := "dateRounds", unfollowed := true, recurses := true, apart := false }
def DateRoundsSaid : Prop := dateRoundsRow.holds Try.pinned (OpenSpec.ofChange dateRoundsSpec)

/-- ITS FALSE NEIGHBOUR: 'it returns false'. Refute it at one input. -/
def dateRoundsWrong : ChangeSpec := { name := "dateRounds", fn := fun _ => fun
  | [d1, d2] => { results := [.lit (.bool false)], args := [d1, d2] }
  | _ => none }
def DateRoundsWrongFalsely : Prop := dateRoundsRow.holds Try.pinned (OpenSpec.ofChange dateRoundsWrong)

/-- 'aflajlaw08.DateCuts': WHATEVER THE INPUT: true; the input reads as it did. -/
def dateCutsSpec : ChangeSpec := { name := "dateCuts", fn := fun _ => fun
  | [d1, d2, d3, d4] => { results := [.lit (.bool true)], args := [d1, d2, d3, d4] }
  | _ => none }
def dateCutsRow : OpenClaim := { program := "ytccgplomnjpniaa", sum := "4b76ba41d83b3f16af04e1a3af3fd562d6bb8083baf597fb865a26254fd22942", func := "aflaj/aflajlaw08.DateCuts", spec := "dateCuts", unfollowed := true, recurses := true, apart := false }
def DateCutsSaid : Prop := dateCutsRow.holds Try.pinned (OpenSpec.ofChange dateCutsSpec)

/-- ITS FALSE NEIGHBOUR: 'it returns false'. Refute it at one input. -/
def dateCutsWrong : ChangeSpec := { name := "dateCuts", fn := fun _ => fun
  | [d1, d2, d3, d4] => { results := [.lit (.bool false)], args := [d1, d2, d3, d4] }
  | _ => none }
def DateCutsWrongFalsely : Prop := dateCutsRow.holds Try.pinned (OpenSpec.ofChange dateCutsWrong)

/-- 'aflajlaw08.DatePicks': WHATEVER THE INPUT: true; the input reads as it did. -/
def datePicksSpec : ChangeSpec := { name := "datePicks", fn := fun _ => fun
  | [d1, d2, d3] => { results := [.lit (.bool true)], args := [d1, d2, d3] }
  | _ => none }
def datePicksRow : OpenClaim := { program := "ytccgplomnjpniaa", sum := "4b76ba41d83b3f16af04e1a3af3fd562d6bb8083baf597fb865a26254fd22942", func := "aflaj/aflajlaw08.DatePicks", spec := "datePicks", unfollowed := true, recurses := true, apart := false }
def DatePicksSaid : Prop := datePicksRow.holds Try.pinned (OpenSpec.ofChange datePicksSpec)

/-- ITS FALSE NEIGHBOUR: 'it returns false'. Refute it at one input. -/
def datePicksWrong : ChangeSpec := { name := "datePicks", fn := fun _ => fun
  | [d1, d2, d3] => { results := [.lit (.bool false)], args := [d1, d2, d3] }
  | _ => none }
def DatePicksWrongFalsely : Prop := datePicksRow.holds Try.pinned (OpenSpec.ofChange datePicksWrong)

/-- 'aflajlaw08.DateExamples': WHATEVER THE INPUT: true; the input reads as it did. -/
def dateExamplesSpec : ChangeSpec := { name := "dateExamples", fn := fun _ => fun
  | [] => { results := [.lit (.bool true)], args := [] }
  | _ => none }
def dateExamplesRow : OpenClaim := { program := "ytccgplomnjpniaa", sum := "4b76ba41d83b3f16af04e1a3af3fd562d6bb8083baf597fb865a26254fd22942", func := "aflaj/aflajlaw08.DateExamples", spec := "dateExamples", unfollowed := true, recurses := true, apart := false }
def DateExamplesSaid : Prop := dateExamplesRow.holds Try.pinned (OpenSpec.ofChange dateExamplesSpec)

/-- ITS FALSE NEIGHBOUR: 'it returns false'. Refute it at one input. -/
def dateExamplesWrong : ChangeSpec := { name := "dateExamples", fn := fun _ => fun
  | [] => { results := [.lit (.bool false)], args := [] }
  | _ => none }
def DateExamplesWrongFalsely : Prop := dateExamplesRow.holds Try.pinned (OpenSpec.ofChange dateExamplesWrong)

/-- 'aflajlaw08.DateTrue': WHATEVER THE INPUT: true; the input reads as it did. -/
def dateTrueSpec : ChangeSpec := { name := "dateTrue", fn := fun _ => fun
  | [d1, d2, d3, d4] => { results := [.lit (.bool true)], args := [d1, d2, d3, d4] }
  | _ => none }
def dateTrueRow : OpenClaim := { program := "ytccgplomnjpniaa", sum := "4b76ba41d83b3f16af04e1a3af3fd562d6bb8083baf597fb865a26254fd22942", func := "aflaj/aflajlaw08.DateTrue", spec := "dateTrue", unfollowed := true, recurses := true, apart := false }
def DateTrueSaid : Prop := dateTrueRow.holds Try.pinned (OpenSpec.ofChange dateTrueSpec)

/-- ITS FALSE NEIGHBOUR: 'it returns false'. Refute it at one input. -/
def dateTrueWrong : ChangeSpec := { name := "dateTrue", fn := fun _ => fun
  | [d1, d2, d3, d4] => { results := [.lit (.bool false)], args := [d1, d2, d3, d4] }
  | _ => none }
def DateTrueWrongFalsely : Prop := dateTrueRow.holds Try.pinned (OpenSpec.ofChange dateTrueWrong)

/-- 'aflajlaw08.DateReached': WHATEVER THE INPUT: true; the input reads as it did. -/
def dateReachedSpec : ChangeSpec := { name := "dateReached", fn := fun _ => fun
  | [d1, d2, d3] => { results := [.lit (.bool true)], args := [d1, d2, d3] }
  | _ => none }
def dateReachedRow : OpenClaim := { program := "ytccgplomnjpniaa", sum := "4b76ba41d83b3f16af04e1a3af3fd562d6bb8083baf597fb865a26254fd22942", func := "aflaj/aflajlaw08.DateReached", spec := "dateReached", unfollowed := true, recurses := true, apart := false }
def DateReachedSaid : Prop := dateReachedRow.holds Try.pinned (OpenSpec.ofChange dateReachedSpec)

/-- ITS FALSE NEIGHBOUR: 'it returns false'. Refute it at one input. -/
def dateReachedWrong : ChangeSpec := { name := "dateReached", fn := fun _ => fun
  | [d1, d2, d3] => { results := [.lit (.bool false)], args := [d1, d2, d3] }
  | _ => none }
def DateReachedWrongFalsely : Prop := dateReachedRow.holds Try.pinned (OpenSpec.ofChange dateReachedWrong)

/-- 'aflajlaw08.DateSure': WHATEVER THE INPUT: true; the input reads as it did. -/
def dateSureSpec : ChangeSpec := { name := "dateSure", fn := fun _ => fun
  | [d1, d2, d3, d4] => { results := [.lit (.bool true)], args := [d1, d2, d3, d4] }
  | _ => none }
def dateSureRow : OpenClaim := { program := "ytccgplomnjpniaa", sum := "4b76ba41d83b3f16af04e1a3af3fd562d6bb8083baf597fb865a26254fd22942", func := "aflaj/aflajlaw08.DateSure", spec := "dateSure", unfollowed := true, recurses := true, apart := false }
def DateSureSaid : Prop := dateSureRow.holds Try.pinned (OpenSpec.ofChange dateSureSpec)

/-- ITS FALSE NEIGHBOUR: 'it returns false'. Refute it at one input. -/
def dateSureWrong : ChangeSpec := { name := "dateSure", fn := fun _ => fun
  | [d1, d2, d3, d4] => { results := [.lit (.bool false)], args := [d1, d2, d3, d4] }
  | _ => none }
def DateSureWrongFalsely : Prop := dateSureRow.holds Try.pinned (OpenSpec.ofChange dateSureWrong)

/-- 'aflajlaw08.DateMore': WHATEVER THE INPUT: true; the input reads as it did. -/
def dateMoreSpec : ChangeSpec := { name := "dateMore", fn := fun _ => fun
  | [d1, d2, d3, d4, d5, d6] => { results := [.lit (.bool true)], args := [d1, d2, d3, d4, d5, d6] }
  | _ => none }
def dateMoreRow : OpenClaim := { program := "ytccgplomnjpniaa", sum := "4b76ba41d83b3f16af04e1a3af3fd562d6bb8083baf597fb865a26254fd22942", func := "aflaj/aflajlaw08.DateMore", spec := "dateMore", unfollowed := true, recurses := true, apart := false }
def DateMoreSaid : Prop := dateMoreRow.holds Try.pinned (OpenSpec.ofChange dateMoreSpec)

/-- ITS FALSE NEIGHBOUR: 'it returns false'. Refute it at one input. -/
def dateMoreWrong : ChangeSpec := { name := "dateMore", fn := fun _ => fun
  | [d1, d2, d3, d4, d5, d6] => { results := [.lit (.bool false)], args := [d1, d2, d3, d4, d5, d6] }
  | _ => none }
def DateMoreWrongFalsely : Prop := dateMoreRow.holds Try.pinned (OpenSpec.ofChange dateMoreWrong)

/-- 'aflajlaw08.DateNarrow': WHATEVER THE INPUT: true; the input reads as it did. -/
def dateNarrowSpec : ChangeSpec := { name := "dateNarrow", fn := fun _ => fun
  | [d1, d2, d3, d4, d5] => { results := [.lit (.bool true)], args := [d1, d2, d3, d4, d5] }
  | _ => none }
def dateNarrowRow : OpenClaim := { program := "ytccgplomnjpniaa", sum := "4b76ba41d83b3f16af04e1a3af3fd562d6bb8083baf597fb865a26254fd22942", func := "aflaj/aflajlaw08.DateNarrow", spec := "dateNarrow", unfollowed := true, recurses := true, apart := false }
def DateNarrowSaid : Prop := dateNarrowRow.holds Try.pinned (OpenSpec.ofChange dateNarrowSpec)

/-- ITS FALSE NEIGHBOUR: 'it returns false'. Refute it at one input. -/
def dateNarrowWrong : ChangeSpec := { name := "dateNarrow", fn := fun _ => fun
  | [d1, d2, d3, d4, d5] => { results := [.lit (.bool false)], args := [d1, d2, d3, d4, d5] }
  | _ => none }
def DateNarrowWrongFalsely : Prop := dateNarrowRow.holds Try.pinned (OpenSpec.ofChange dateNarrowWrong)

/-- 'aflajlaw08.DateKept': WHATEVER THE INPUT: true; the input reads as it did. -/
def dateKeptSpec : ChangeSpec := { name := "dateKept", fn := fun _ => fun
  | [d1, d2, d3] => { results := [.lit (.bool true)], args := [d1, d2, d3] }
  | _ => none }
def dateKeptRow : OpenClaim := { program := "ytccgplomnjpniaa", sum := "4b76ba41d83b3f16af04e1a3af3fd562d6bb8083baf597fb865a26254fd22942", func := "aflaj/aflajlaw08.DateKept", spec := "dateKept", unfollowed := true, recurses := true, apart := false }
def DateKeptSaid : Prop := dateKeptRow.holds Try.pinned (OpenSpec.ofChange dateKeptSpec)

/-- ITS FALSE NEIGHBOUR: 'it returns false'. Refute it at one input. -/
def dateKeptWrong : ChangeSpec := { name := "dateKept", fn := fun _ => fun
  | [d1, d2, d3] => { results := [.lit (.bool false)], args := [d1, d2, d3] }
  | _ => none }
def DateKeptWrongFalsely : Prop := dateKeptRow.holds Try.pinned (OpenSpec.ofChange dateKeptWrong)

/-- 'aflajlaw08.DateHerd': WHATEVER THE INPUT: true; the input reads as it did. -/
def dateHerdSpec : ChangeSpec := { name := "dateHerd", fn := fun _ => fun
  | [d1, d2] => { results := [.lit (.bool true)], args := [d1, d2] }
  | _ => none }
def dateHerdRow : OpenClaim := { program := "ytccgplomnjpniaa", sum := "4b76ba41d83b3f16af04e1a3af3fd562d6bb8083baf597fb865a26254fd22942", func := "aflaj/aflajlaw08.DateHerd", spec := "dateHerd", unfollowed := true, recurses := true, apart := false }
def DateHerdSaid : Prop := dateHerdRow.holds Try.pinned (OpenSpec.ofChange dateHerdSpec)

/-- ITS FALSE NEIGHBOUR: 'it returns false'. Refute it at one input. -/
def dateHerdWrong : ChangeSpec := { name := "dateHerd", fn := fun _ => fun
  | [d1, d2] => { results := [.lit (.bool false)], args := [d1, d2] }
  | _ => none }
def DateHerdWrongFalsely : Prop := dateHerdRow.holds Try.pinned (OpenSpec.ofChange dateHerdWrong)

/-- 'aflajlaw08.DateBetter': WHATEVER THE INPUT: true; the input reads as it did. -/
def dateBetterSpec : ChangeSpec := { name := "dateBetter", fn := fun _ => fun
  | [d1, d2, d3, d4, d5] => { results := [.lit (.bool true)], args := [d1, d2, d3, d4, d5] }
  | _ => none }
def dateBetterRow : OpenClaim := { program := "ytccgplomnjpniaa", sum := "4b76ba41d83b3f16af04e1a3af3fd562d6bb8083baf597fb865a26254fd22942", func := "aflaj/aflajlaw08.DateBetter", spec := "dateBetter", unfollowed := true, recurses := true, apart := false }
def DateBetterSaid : Prop := dateBetterRow.holds Try.pinned (OpenSpec.ofChange dateBetterSpec)

/-- ITS FALSE NEIGHBOUR: 'it returns false'. Refute it at one input. -/
def dateBetterWrong : ChangeSpec := { name := "dateBetter", fn := fun _ => fun
  | [d1, d2, d3, d4, d5] => { results := [.lit (.bool false)], args := [d1, d2, d3, d4, d5] }
  | _ => none }
def DateBetterWrongFalsely : Prop := dateBetterRow.holds Try.pinned (OpenSpec.ofChange dateBetterWrong)

/- THE SECOND FORM. 'bulk': how many values and letters a reading holds, each counted each time it is reached (what is shared counts as often as it is met; a slice's spare places count too). A statement '..UptoSaid' is the law's where the arguments, and the package variables that the reading takes, are together of bulk at most 1048576: NARROWER than '..Said'. Prove '..Said' where nothing that the law and all that it calls make is longer than what came in: it says more and counts as full. Else prove '..UptoSaid'. A law counts once. -/
mutual
def uptoBulk {H : Type} : DataW H → Nat
  | .lit (.string bytes) => bytes.length + 1
  | .lit _ => 1
  | .nil => 1
  | .ptr d => uptoBulk d + 1
  | .slice elems spare => uptoBulkAll elems + uptoBulkAll spare + 1
  | .agg parts => uptoBulkAll parts + 1
  | .iface _ d => uptoBulk d + 1
  | .map entries => uptoBulkEntries entries + 1
  | .held _ => 1
def uptoBulkAll {H : Type} : List (DataW H) → Nat
  | [] => 0
  | d :: r => uptoBulk d + uptoBulkAll r
def uptoBulkEntries {H : Type} : List (Lit × DataW H) → Nat
  | [] => 0
  | x :: r => uptoBulkEntry x + uptoBulkEntries r
def uptoBulkEntry {H : Type} : Lit × DataW H → Nat
  | (.string bytes, d) => bytes.length + uptoBulk d + 1
  | (_, d) => uptoBulk d + 1
 end
def uptoSmall : (H : Type) → List (DataW H) → Bool := fun _ ds => decide (uptoBulkAll ds ≤ 1048576)
def OpenSpec.upto (s : _root_.Go.ChangeSpec) : _root_.Go.OpenSpec := { _root_.Go.OpenSpec.ofChange s with cond := some uptoSmall }

/-- 'aflajlaw08.DateRounds', WHERE WHAT IT READS IS OF BULK AT MOST 1048576: true; the input reads as it did. -/
def dateRoundsUptoRow : OpenClaim := { program := "ytccgplomnjpniaa", sum := "4b76ba41d83b3f16af04e1a3af3fd562d6bb8083baf597fb865a26254fd22942", func := "aflaj/aflajlaw08.DateRounds", spec := "dateRounds", unfollowed := true, recurses := true, apart := false, narrowed := true }
def DateRoundsUptoSaid : Prop := dateRoundsUptoRow.holds Try.pinned (OpenSpec.upto dateRoundsSpec)

/-- 'aflajlaw08.DateCuts', WHERE WHAT IT READS IS OF BULK AT MOST 1048576: true; the input reads as it did. -/
def dateCutsUptoRow : OpenClaim := { program := "ytccgplomnjpniaa", sum := "4b76ba41d83b3f16af04e1a3af3fd562d6bb8083baf597fb865a26254fd22942", func := "aflaj/aflajlaw08.DateCuts", spec := "dateCuts", unfollowed := true, recurses := true, apart := false, narrowed := true }
def DateCutsUptoSaid : Prop := dateCutsUptoRow.holds Try.pinned (OpenSpec.upto dateCutsSpec)

/-- 'aflajlaw08.DatePicks', WHERE WHAT IT READS IS OF BULK AT MOST 1048576: true; the input reads as it did. -/
def datePicksUptoRow : OpenClaim := { program := "ytccgplomnjpniaa", sum := "4b76ba41d83b3f16af04e1a3af3fd562d6bb8083baf597fb865a26254fd22942", func := "aflaj/aflajlaw08.DatePicks", spec := "datePicks", unfollowed := true, recurses := true, apart := false, narrowed := true }
def DatePicksUptoSaid : Prop := datePicksUptoRow.holds Try.pinned (OpenSpec.upto datePicksSpec)

/-- 'aflajlaw08.DateExamples', WHERE WHAT IT READS IS OF BULK AT MOST 1048576: true; the input reads as it did. -/
def dateExamplesUptoRow : OpenClaim := { program := "ytccgplomnjpniaa", sum := "4b76ba41d83b3f16af04e1a3af3fd562d6bb8083baf597fb865a26254fd22942", func := "aflaj/aflajlaw08.DateExamples", spec := "dateExamples", unfollowed := true, recurses := true, apart := false, narrowed := true }
def DateExamplesUptoSaid : Prop := dateExamplesUptoRow.holds Try.pinned (OpenSpec.upto dateExamplesSpec)

/-- 'aflajlaw08.DateTrue', WHERE WHAT IT READS IS OF BULK AT MOST 1048576: true; the input reads as it did. -/
def dateTrueUptoRow : OpenClaim := { program := "ytccgplomnjpniaa", sum := "4b76ba41d83b3f16af04e1a3af3fd562d6bb8083baf597fb865a26254fd22942", func := "aflaj/aflajlaw08.DateTrue", spec := "dateTrue", unfollowed := true, recurses := true, apart := false, narrowed := true }
def DateTrueUptoSaid : Prop := dateTrueUptoRow.holds Try.pinned (OpenSpec.upto dateTrueSpec)

/-- 'aflajlaw08.DateReached', WHERE WHAT IT READS IS OF BULK AT MOST 1048576: true; the input reads as it did. -/
def dateReachedUptoRow : OpenClaim := { program := "ytccgplomnjpniaa", sum := "4b76ba41d83b3f16af04e1a3af3fd562d6bb8083baf597fb865a26254fd22942", func := "aflaj/aflajlaw08.DateReached", spec := "dateReached", unfollowed := true, recurses := true, apart := false, narrowed := true }
def DateReachedUptoSaid : Prop := dateReachedUptoRow.holds Try.pinned (OpenSpec.upto dateReachedSpec)

/-- 'aflajlaw08.DateSure', WHERE WHAT IT READS IS OF BULK AT MOST 1048576: true; the input reads as it did. -/
def dateSureUptoRow : OpenClaim := { program := "ytccgplomnjpniaa", sum := "4b76ba41d83b3f16af04e1a3af3fd562d6bb8083baf597fb865a26254fd22942", func := "aflaj/aflajlaw08.DateSure", spec := "dateSure", unfollowed := true, recurses := true, apart := false, narrowed := true }
def DateSureUptoSaid : Prop := dateSureUptoRow.holds Try.pinned (OpenSpec.upto dateSureSpec)

/-- 'aflajlaw08.DateMore', WHERE WHAT IT READS IS OF BULK AT MOST 1048576: true; the input reads as it did. -/
def dateMoreUptoRow : OpenClaim := { program := "ytccgplomnjpniaa", sum := "4b76ba41d83b3f16af04e1a3af3fd562d6bb8083baf597fb865a26254fd22942", func := "aflaj/aflajlaw08.DateMore", spec := "dateMore", unfollowed := true, recurses := true, apart := false, narrowed := true }
def DateMoreUptoSaid : Prop := dateMoreUptoRow.holds Try.pinned (OpenSpec.upto dateMoreSpec)

/-- 'aflajlaw08.DateNarrow', WHERE WHAT IT READS IS OF BULK AT MOST 1048576: true; the input reads as it did. -/
def dateNarrowUptoRow : OpenClaim := { program := "ytccgplomnjpniaa", sum := "4b76ba41d83b3f16af04e1a3af3fd562d6bb8083baf597fb865a26254fd22942", func := "aflaj/aflajlaw08.DateNarrow", spec := "dateNarrow", unfollowed := true, recurses := true, apart := false, narrowed := true }
def DateNarrowUptoSaid : Prop := dateNarrowUptoRow.holds Try.pinned (OpenSpec.upto dateNarrowSpec)

/-- 'aflajlaw08.DateKept', WHERE WHAT IT READS IS OF BULK AT MOST 1048576: true; the input reads as it did. -/
def dateKeptUptoRow : OpenClaim := { program := "ytccgplomnjpniaa", sum := "4b76ba41d83b3f16af04e1a3af3fd562d6bb8083baf597fb865a26254fd22942", func := "aflaj/aflajlaw08.DateKept", spec := "dateKept", unfollowed := true, recurses := true, apart := false, narrowed := true }
def DateKeptUptoSaid : Prop := dateKeptUptoRow.holds Try.pinned (OpenSpec.upto dateKeptSpec)

/-- 'aflajlaw08.DateHerd', WHERE WHAT IT READS IS OF BULK AT MOST 1048576: true; the input reads as it did. -/
def dateHerdUptoRow : OpenClaim := { program := "ytccgplomnjpniaa", sum := "4b76ba41d83b3f16af04e1a3af3fd562d6bb8083baf597fb865a26254fd22942", func := "aflaj/aflajlaw08.DateHerd", spec := "dateHerd", unfollowed := true, recurses := true, apart := false, narrowed := true }
def DateHerdUptoSaid : Prop := dateHerdUptoRow.holds Try.pinned (OpenSpec.upto dateHerdSpec)

/-- 'aflajlaw08.DateBetter', WHERE WHAT IT READS IS OF BULK AT MOST 1048576: true; the input reads as it did. -/
def dateBetterUptoRow : OpenClaim := { program := "ytccgplomnjpniaa", sum := "4b76ba41d83b3f16af04e1a3af3fd562d6bb8083baf597fb865a26254fd22942", func := "aflaj/aflajlaw08.DateBetter", spec := "dateBetter", unfollowed := true, recurses := true, apart := false, narrowed := true }
def DateBetterUptoSaid : Prop := dateBetterUptoRow.holds Try.pinned (OpenSpec.upto dateBetterSpec)

end Rows
end Go.Proofs.Ytccgplomnjpniaa
