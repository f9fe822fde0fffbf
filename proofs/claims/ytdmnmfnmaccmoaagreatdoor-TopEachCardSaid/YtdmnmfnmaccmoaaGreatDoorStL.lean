/- A row of steps, laid as a literal. -/
import Derived.Test.YtdmnmfnmaccmoaaGreatDoorSc8
namespace Go.Proofs.YtdmnmfnmaccmoaaGreatDoor
open Go Go.RowKit
def dE : Ded := ⟨1, 7, 0, []⟩
def stC (x : Stp) : List Value := [.int .i64 x.kind, .int .i64 x.n, .int .i64 x.m, .int .i64 x.deed.kind, .int .i64 x.deed.key, .int .i64 x.deed.n, .slice none 0 0]
theorem steps_lit {w : World} {T : List TypeId} (l : List Stp) (h : ∀ x ∈ l, x.deed.data = []) (hn : l.length ≤ maxLen) (fr : Nat × Nat) :
  Row eStp T (w.alloc (.cells (l.map stC).flatten.toArray eStp.ty fr)) (w.heap.size + 1) (.slice (some ⟨w.heap.size, 0, none⟩) l.length l.length) l := by
 have hc : ∀ cs ∈ l.map stC, cs.length = 7 := by
  intro cs hcs
  obtain ⟨x, _, rfl⟩ := List.mem_map.1 hcs
  rfl
 refine ⟨_, l.length, l.map stC, rfl, ⟨by rw [List.length_map], fun i hi => ?_⟩, SlT.of_sl (Sl.new w _ _ fr 7 _ (by rw [flat_length _ hc, List.length_map]) hn (Nat.lt_succ_self _)) (Nat.le_refl _) (by rw [size_alloc]; exact Nat.le_refl _)⟩
 have hi : i < l.length := by simpa using hi
 rw [getD_map stC eStp.d _ _ _ hi]
 have hx : l.getD i eStp.d ∈ l := by
  rw [List.getD_eq_getElem?_getD, List.getElem?_eq_getElem hi]
  exact List.getElem_mem _
 exact ⟨_, rfl, by rw [h _ hx]; exact ByT.nil _ _⟩
end Go.Proofs.YtdmnmfnmaccmoaaGreatDoor
