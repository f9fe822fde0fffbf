/- Walks: scref6.Do. -/
import Derived.Test.YtdmnmfnmaccmoaaGreatDoorSc5
namespace Go.Proofs.YtdmnmfnmaccmoaaGreatDoor
open Go Go.RowKit
theorem begin_fine {s : Sto} (g : sGood s) (d : Ded) : Fine (sBegin s d).1.disk 4 := by
 by_cases h : (sBegin s d).2.2 = 0
 ·obtain ⟨_, _, p, r, _, _, e1, _⟩ := begin_ok g h
  rw [e1]
  exact ((good_fine g.disk).put (by omega) p r).le (by omega)
 ·rw [(begin_err h).1]
  exact (good_fine g.disk).le (by omega)
end Go.Proofs.YtdmnmfnmaccmoaaGreatDoor
