/- Walks: scref6.Step. -/
import Derived.Test.YtdmnmfnmaccmoaaGreatDoorSc6
import Derived.Test.YtdmnmfnmaccmoaaGreatDoorSc3
import Derived.Test.YtdmnmfnmaccmoaaGreatDoorFs5
namespace Go.Proofs.YtdmnmfnmaccmoaaGreatDoor
open Go Go.RowKit
theorem Box.c7 {w : World} {g : Nat} {t : TypeId} {a b c d e f i : Value} (h : Box w g t #[a, b, c, d, e, f, i]) : w.cell? ⟨g, 0, none⟩ = some a ∧ w.cell? ⟨g, 1, none⟩ = some b ∧ w.cell? ⟨g, 2, none⟩ = some c ∧ w.cell? ⟨g, 3, none⟩ = some d ∧ w.cell? ⟨g, 4, none⟩ = some e ∧ w.cell? ⟨g, 5, none⟩ = some f ∧ w.cell? ⟨g, 6, none⟩ = some i := ⟨h.cell 0 rfl, h.cell 1 rfl, h.cell 2 rfl, h.cell 3 rfl, h.cell 4 rfl, h.cell 5 rfl, h.cell 6 rfl⟩
theorem StpV.deed {w : World} {base : Nat} {x : Stp} {u : Value} (h : StpV w base (.agg #[.int .i64 x.kind, .int .i64 x.n, .int .i64 x.m, .int .i64 x.deed.kind, .int .i64 x.deed.key, .int .i64 x.deed.n, u]) x) : DedV w base (.agg #[.int .i64 x.deed.kind, .int .i64 x.deed.key, .int .i64 x.deed.n, u]) x.deed := by
 obtain ⟨u', e, h⟩ := h
 injection e with e
 simp only [Array.mk.injEq, List.cons.injEq, true_and, and_true] at e
 exact ⟨_, by rw [e], h⟩
theorem clean_fine {d : Dsk} (h : dEven d) : Fine (fClean d).1 0 := by
 rw [fClean_eq h]
 exact good_fine (clean_good' _ _)
end Go.Proofs.YtdmnmfnmaccmoaaGreatDoor
