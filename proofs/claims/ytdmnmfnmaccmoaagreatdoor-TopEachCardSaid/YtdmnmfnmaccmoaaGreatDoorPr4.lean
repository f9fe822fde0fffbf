/- Walks: scref1.PutPair. -/
import Derived.Test.YtdmnmfnmaccmoaaGreatDoorPr2
namespace Go.Proofs.YtdmnmfnmaccmoaaGreatDoor
open Go Go.RowKit
end Go.Proofs.YtdmnmfnmaccmoaaGreatDoor
