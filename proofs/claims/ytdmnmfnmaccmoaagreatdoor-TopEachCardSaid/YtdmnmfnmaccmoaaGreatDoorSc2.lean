/- Walks: scref6.Mount, New, SameStore. -/
import Derived.Test.YtdmnmfnmaccmoaaGreatDoorA5
import Derived.Test.YtdmnmfnmaccmoaaGreatDoorIx6
import Derived.Test.YtdmnmfnmaccmoaaGreatDoorA4
namespace Go.Proofs.YtdmnmfnmaccmoaaGreatDoor
open Go Go.RowKit
end Go.Proofs.YtdmnmfnmaccmoaaGreatDoor
