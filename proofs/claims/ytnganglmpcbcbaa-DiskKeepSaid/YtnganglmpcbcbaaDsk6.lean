/- A row of the call's own kept while another row grows. No walk here. -/
import Derived.Test.YtnganglmpcbcbaaDsk5
namespace Go.Proofs.Ytnganglmpcbcbaa
open Go Go.RowKit

theorem row_not {w : World} {base e size n : Nat} {v : Value} {xs : List Value} (h : w.ownsRow base e size v n xs) (t : Nat) (he : e ≠ t) :
    ∀ g, v.ownBlock = some g → ∀ cur, w.heap[g]? ≠ some (.cells cur t (0, 0)) := by
  intro g hg cur' e'
  rcases h.2 with ⟨rfl, _⟩ | ⟨g', cap, cur, rfl, h1, h2, _⟩
  · cases hg
  · simp only [Value.ownBlock, Option.some.injEq] at hg
    subst hg
    rw [h2] at e'
    injection e' with e'
    injection e' with _ e'
    exact he e'
theorem own_grown {w w' : World} {base e size n : Nat} {v : Value} {xs : List Value} {row : Option Nat} (h : w.ownsRow base e size v n xs) (hg : w.grownBy w' row) (hr : ∀ g, row = some g → ∀ cur, w.heap[g]? ≠ some (.cells cur e (0, 0))) : w'.ownsRow base e size v n xs := by
  refine ⟨h.1, ?_⟩
  rcases h.2 with hn | ⟨g, cap, cur, rfl, h1, hgg, rest⟩
  · exact .inl hn
  · exact .inr ⟨g, cap, cur, rfl, h1, (hg.block g (Array.getElem?_eq_some_iff.1 hgg).1 (fun e0 => hr g e0.symm _ hgg)).trans hgg, rest⟩
theorem OwnBlks.grown {w w' : World} {rb base : Nat} {v : Value} {bs : List (List UInt8)} {row : Option Nat} (h : OwnBlks w rb base v bs) (hg : w.grownBy w' row)
    (hr : ∀ g, row = some g → base ≤ g ∧ ∀ cur, w.heap[g]? ≠ some (.cells cur 5 (0, 0))) (hr' : ∀ g, row = some g → ∀ cur, w.heap[g]? ≠ some (.cells cur 22 (0, 0))) : OwnBlks w' rb base v bs := by
  obtain ⟨vs, ho, hv⟩ := h
  exact ⟨vs, own_grown ho hg hr', fun i hi => (hv i hi).grown hg hr⟩
theorem OwnLats.grown {w w' : World} {rb base : Nat} {v : Value} {ls : List (Int × List UInt8)} {row : Option Nat} (h : OwnLats w rb base v ls) (hg : w.grownBy w' row)
    (hr : ∀ g, row = some g → base ≤ g ∧ ∀ cur, w.heap[g]? ≠ some (.cells cur 5 (0, 0))) (hr' : ∀ g, row = some g → ∀ cur, w.heap[g]? ≠ some (.cells cur 60 (0, 0))) : OwnLats w' rb base v ls := by
  obtain ⟨vs, e, ho, hv⟩ := h
  exact ⟨vs, e, own_grown ho hg hr', fun i hi => ⟨(hv i hi).1, (hv i hi).2.grown hg hr⟩⟩

end Go.Proofs.Ytnganglmpcbcbaa
