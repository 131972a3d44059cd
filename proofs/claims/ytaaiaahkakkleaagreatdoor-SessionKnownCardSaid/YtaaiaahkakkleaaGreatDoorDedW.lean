/- What somebody can make, plain: what is made of what is known is known. -/
import Derived.Test.YtaaiaahkakkleaaGreatDoorDedV
set_option linter.unusedSimpArgs false
set_option linter.unusedVariables false
namespace Go.Proofs.YtaaiaahkakkleaaGreatDoor
open Go.RowKit
end Go.Proofs.YtaaiaahkakkleaaGreatDoor
