/- Walks: the closed fact of chapter 12. -/
import Derived.Test.YtmcgbdbhpnplmaaGreatSt9
import Derived.Test.YtmcgbdbhpnplmaaGreatStL
import Derived.Test.YtmcgbdbhpnplmaaGreatSc2
namespace Go.Proofs.YtmcgbdbhpnplmaaGreat
open Go Go.RowKit

def dN : Ded := ⟨0, 0, 0, []⟩
def l12 : List Stp := [⟨1, 0, 0, dE⟩, ⟨3, 5, 1, dN⟩, ⟨3, 20, 1, dN⟩]
end Go.Proofs.YtmcgbdbhpnplmaaGreat

