/- Walks: scref1.SameEntries. -/
import Derived.Test.YtmcgbdbhpnplmaaGreatIx1
namespace Go.Proofs.YtmcgbdbhpnplmaaGreat
open Go Go.RowKit

end Go.Proofs.YtmcgbdbhpnplmaaGreat

