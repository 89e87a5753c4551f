/- What the functions of level return, as plain Lean. -/
import Derived.Test.YtoolblbdmmiahaaDoorLM
import Derived.Test.YtoolblbdmmiahaaDoorLT
import Derived.Test.YtoolblbdmmiahaaDoorLW
namespace Go.Proofs.YtoolblbdmmiahaaDoor
open Go Go.Eng Go.RowKit Go.Proofs

def heightsF (S : Sv) : List Sp × Int := if ¬ OkSv S then ([], 10) else if okS S = true then ((List.range S.pts.toNat).map (fun i => fallR (tbl S) i S.pts.toNat), 0) else ([], 11)
def fallF (S : Sv) (a b : Int) : Sp × Int := if ¬ OkSv S then ((0, 0), 10) else if ¬ (In a 0 (S.pts - 1) ∧ In b 0 (S.pts - 1)) then ((0, 0), 2) else if okS S = true then (fallR (tbl S) a.toNat b.toNat, 0) else ((0, 0), 11)
def slopeF (S : Sv) (k : Int) : Sp × Int := if ¬ OkSv S then ((0, 0), 10) else if ¬ In k 0 ((S.thr.length : Int) - 1) then ((0, 0), 12) else if okS S = true then (match S.thr[k.toNat]? with | some x => slopeR (fallR (tbl S) x.fr.toNat x.to.toNat) x.long | none => (0, 0), 0) else ((0, 0), 11)
def runR (T : Tb) (a b : Int) : Int := if 0 < (fallR T a.toNat b.toNat).1 then 2 else if (fallR T a.toNat b.toNat).2 ≤ 0 then 0 else 1
def runsL (T : Tb) (l : List Int) : List Int := (List.range (l.length - 1)).map (fun i => runR T (l.getD i 0) (l.getD (i + 1) 0))
def runsF (S : Sv) (l : List Int) : List Int × Int := if ¬ OkSv S then ([], 10) else if 20 < l.length then ([], 4) else if ¬ (∀ x ∈ l, In x 0 (S.pts - 1)) then ([], 2) else if okS S = true then (runsL (tbl S) l, 0) else ([], 11)
def clashF (S : Sv) : List Nat × Int := if ¬ OkSv S then ([], 10) else if okS S = true then ([], 6) else (clashL S, 0)
def widenF (S : Sv) : Int × Int := if ¬ OkSv S then (0, 10) else (widenR S, 0)
def encN (n : Nat) : List Value := [.int .i64 (n : Int)]
end Go.Proofs.YtoolblbdmmiahaaDoor
