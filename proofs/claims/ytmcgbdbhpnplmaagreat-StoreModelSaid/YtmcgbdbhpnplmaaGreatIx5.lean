/- Walks: scref1.RightIndex. -/
import Derived.Test.YtmcgbdbhpnplmaaGreatIx4
import Derived.Test.YtmcgbdbhpnplmaaGreatIx2
import Derived.Test.YtmcgbdbhpnplmaaGreatPr2
namespace Go.Proofs.YtmcgbdbhpnplmaaGreat
open Go Go.RowKit
theorem eOne_iff (e : Ent) : eOne e = true ↔ rWrong e.rcd = 0 ∧ e.rcd.kind ≠ 1 ∧ 0 ≤ e.pair ∧ e.pair ≤ 1000 := by
 unfold eOne rOne
 simp [and_assoc]
end Go.Proofs.YtmcgbdbhpnplmaaGreat
