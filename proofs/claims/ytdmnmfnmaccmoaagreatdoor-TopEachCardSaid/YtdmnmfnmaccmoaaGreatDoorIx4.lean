/- Walks: scref1.SameEntries. -/
import Derived.Test.YtdmnmfnmaccmoaaGreatDoorIx1
namespace Go.Proofs.YtdmnmfnmaccmoaaGreatDoor
open Go Go.RowKit
end Go.Proofs.YtdmnmfnmaccmoaaGreatDoor
