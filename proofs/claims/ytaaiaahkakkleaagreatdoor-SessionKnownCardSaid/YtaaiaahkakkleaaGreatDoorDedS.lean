/- What somebody can make, plain: a box under a fresh key hides what is in it. -/
import Derived.Test.YtaaiaahkakkleaaGreatDoorDedR
set_option linter.unusedSimpArgs false
set_option linter.unusedVariables false
namespace Go.Proofs.YtaaiaahkakkleaaGreatDoor
open Go.RowKit
end Go.Proofs.YtaaiaahkakkleaaGreatDoor
