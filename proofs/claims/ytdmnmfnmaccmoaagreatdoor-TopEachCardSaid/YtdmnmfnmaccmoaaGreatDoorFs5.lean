/- Walks: scref6.Clean. -/
import Derived.Test.YtdmnmfnmaccmoaaGreatDoorFs4
namespace Go.Proofs.YtdmnmfnmaccmoaaGreatDoor
open Go Go.RowKit
end Go.Proofs.YtdmnmfnmaccmoaaGreatDoor
