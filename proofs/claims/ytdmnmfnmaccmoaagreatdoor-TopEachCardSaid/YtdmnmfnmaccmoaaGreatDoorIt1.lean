/- Plain: what the statement IndexTells reckons of its own. -/
import Derived.Test.YtdmnmfnmaccmoaaGreatDoorA5
import Derived.Test.YtdmnmfnmaccmoaaGreatDoorMO
namespace Go.Proofs.YtdmnmfnmaccmoaaGreatDoor
open Go Go.RowKit
end Go.Proofs.YtdmnmfnmaccmoaaGreatDoor
