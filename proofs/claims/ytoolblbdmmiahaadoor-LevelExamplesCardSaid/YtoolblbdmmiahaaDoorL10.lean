/- Walks: Heights and Fall of the reference; the statement LevelHeights. -/
import Derived.Test.YtoolblbdmmiahaaDoorL9
namespace Go.Proofs.YtoolblbdmmiahaaDoor
open Go Go.Eng Go.RowKit Go.Proofs
set_option maxHeartbeats 4000000
set_option maxRecDepth 10000
attribute [local irreducible] TL TC TQ

end Go.Proofs.YtoolblbdmmiahaaDoor
