/- Walks: scref1.RightIndex. -/
import Derived.Test.YtdmnmfnmaccmoaaGreatDoorIx4
import Derived.Test.YtdmnmfnmaccmoaaGreatDoorIx2
import Derived.Test.YtdmnmfnmaccmoaaGreatDoorPr2
namespace Go.Proofs.YtdmnmfnmaccmoaaGreatDoor
open Go Go.RowKit
theorem eOne_iff (e : Ent) : eOne e = true ↔ rWrong e.rcd = 0 ∧ e.rcd.kind ≠ 1 ∧ 0 ≤ e.pair ∧ e.pair ≤ 1000 := by
 unfold eOne rOne
 simp [and_assoc]
end Go.Proofs.YtdmnmfnmaccmoaaGreatDoor
