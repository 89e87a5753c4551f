/- Walks: Fall of the reference; the statement LevelHeights. -/
import Derived.Test.YtoolblbdmmiahaaDoorL10
namespace Go.Proofs.YtoolblbdmmiahaaDoor
open Go Go.Eng Go.RowKit Go.Proofs
set_option maxHeartbeats 4000000
set_option maxRecDepth 10000
attribute [local irreducible] TL TC TQ

theorem TC_hperm {r : Option Nat} {P : Program} {Q : Exit → Act → World → Prop} {N : Nat} {D : List Deferred} {B : Nat} {w0 : World} {L : Env} {H H' : Hp} {c : Code} (hp : H'.Perm H) (h : TC r P Q N D B w0 L H' c) : TC r P Q N D B w0 L H c := TC.weaken (Sub.refl _) (fun w hs => hs.perm hp) h
end Go.Proofs.YtoolblbdmmiahaaDoor
