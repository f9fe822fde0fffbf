/- Walks: scref6.Begin. -/
import Derived.Test.YtdmnmfnmaccmoaaGreatDoorSc4
import Derived.Test.YtdmnmfnmaccmoaaGreatDoorFsA
import Derived.Test.YtdmnmfnmaccmoaaGreatDoorIx2
import Derived.Test.YtdmnmfnmaccmoaaGreatDoorPr4
namespace Go.Proofs.YtdmnmfnmaccmoaaGreatDoor
open Go Go.RowKit
end Go.Proofs.YtdmnmfnmaccmoaaGreatDoor
