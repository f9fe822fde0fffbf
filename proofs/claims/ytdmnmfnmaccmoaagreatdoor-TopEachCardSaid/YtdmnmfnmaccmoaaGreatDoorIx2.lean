/- Walks: scref1.Insert. -/
import Derived.Test.YtdmnmfnmaccmoaaGreatDoorIx1
namespace Go.Proofs.YtdmnmfnmaccmoaaGreatDoor
open Go Go.RowKit
theorem drop_ent {l : List Ent} {a : Nat} (ha : a < l.length) : l.drop a = l.getD a ⟨rZero, 0⟩ :: l.drop (a + 1) := by
 rw [List.drop_eq_getElem_cons ha, List.getD_eq_getElem?_getD, List.getElem?_eq_getElem ha]
 rfl
theorem EntV.mk {w : World} {base : Nat} {e : Ent} {u : Value} (h : ByT w base u e.rcd.data) : EntV w base (.agg #[.int .i64 e.rcd.kind, .int .i64 e.rcd.key, .int .i64 e.rcd.ver, u, .int .i64 e.pair]) e := ⟨u, rfl, h⟩
end Go.Proofs.YtdmnmfnmaccmoaaGreatDoor
