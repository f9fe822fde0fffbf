/- Walks: scref6.Scrub. -/
import Derived.Test.YtdmnmfnmaccmoaaGreatDoorSc2
import Derived.Test.YtdmnmfnmaccmoaaGreatDoorPr6
namespace Go.Proofs.YtdmnmfnmaccmoaaGreatDoor
open Go Go.RowKit
end Go.Proofs.YtdmnmfnmaccmoaaGreatDoor
