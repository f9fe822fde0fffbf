/- Disks of the call's own: one more block, one more late write. No walk here. -/
import Derived.Test.YtnganglmpcbcbaaDsk4
namespace Go.Proofs.Ytnganglmpcbcbaa
open Go Go.RowKit

theorem ByE.grown {w w' : World} {base : Nat} {v : Value} {l : List UInt8} {row : Option Nat} (h : ByE w base v l) (hg : w.grownBy w' row) (hr : ∀ g, row = some g → base ≤ g ∧ ∀ cur, w.heap[g]? ≠ some (.cells cur 5 (0, 0))) : ByE w' base v l := by
  obtain ⟨A, n, c, rfl, hy, ha⟩ := h
  have hne : ∀ ad, A = some ad → some ad.block ≠ row := by
    intro ad e e2
    obtain ⟨h1, h2⟩ := hr _ e2.symm
    rcases ha ad e with h3 | ⟨cur, h3⟩
    · omega
    · exact h2 _ h3
  refine ⟨A, n, c, rfl, Sl.more (Sl.grown hy (Nat.le_refl _) hg hne) hg.size, fun ad e => ?_⟩
  rcases ha ad e with h1 | ⟨cur, h1⟩
  · exact .inl h1
  · exact .inr ⟨cur, (hg.block _ (Array.getElem?_eq_some_iff.1 h1).1 (hne ad e)).trans h1⟩

theorem row_kind {w : World} {base e size n : Nat} {v : Value} {xs : List Value} (h : w.ownsRow base e size v n xs) (he : e ≠ 5) :
    ∀ g, v.ownBlock = some g → base ≤ g ∧ ∀ cur, w.heap[g]? ≠ some (.cells cur 5 (0, 0)) := by
  intro g hg
  rcases h.2 with ⟨rfl, _⟩ | ⟨g', cap, cur, rfl, h1, h2, _⟩
  · cases hg
  · simp only [Value.ownBlock, Option.some.injEq] at hg
    subst hg
    refine ⟨h1, fun cur' e' => ?_⟩
    rw [h2] at e'
    injection e' with e'
    injection e' with _ e'
    exact he e'

theorem getD_snoc {α : Type} (d : α) (l : List α) (x : α) (i : Nat) (hi : i < (l ++ [x]).length) : (i < l.length ∧ (l ++ [x]).getD i d = l.getD i d) ∨ (i = l.length ∧ (l ++ [x]).getD i d = x) := by
  rcases Nat.lt_or_ge i l.length with h | h
  · exact .inl ⟨h, by rw [List.getD_eq_getElem?_getD, List.getElem?_append_left h, ← List.getD_eq_getElem?_getD]⟩
  · rw [List.length_append, List.length_singleton] at hi
    have e : i = l.length := by omega
    subst e
    exact .inr ⟨rfl, by rw [List.getD_eq_getElem?_getD, List.getElem?_append_right (Nat.le_refl _), Nat.sub_self]; rfl⟩

theorem OwnBlks.snoc {w w' : World} {rb base : Nat} (hrb : base ≤ rb) {v v' u : Value} {bs : List (List UInt8)} {b : List UInt8} {vs : List Value} (ho : w.ownsRow rb 22 1 v bs.length vs) (hv : ∀ i, i < bs.length → ByE w base (vs.getD i (.bool false)) (bs.getD i []))
    (hu : ByE w base u b) (ho' : w'.ownsRow rb 22 1 v' (bs.length + 1) (vs ++ [u])) (hg : w.grownBy w' v.ownBlock) : OwnBlks w' rb base v' (bs ++ [b]) := by
  have hk := fun g e => (row_kind ho (by decide) g e).imp (fun h => Nat.le_trans hrb h) id
  have hlen : vs.length = bs.length := by have := ho.1; omega
  refine ⟨vs ++ [u], by simpa using ho', fun i hi => ?_⟩
  rcases getD_snoc [] bs b i hi with ⟨h1, e1⟩ | ⟨h1, e1⟩
  · rcases getD_snoc (.bool false) vs u i (by simp at hi ⊢; omega) with ⟨h2, e2⟩ | ⟨h2, e2⟩
    · rw [e1, e2]; exact (hv i h1).grown hg hk
    · omega
  · rcases getD_snoc (.bool false) vs u i (by simp at hi ⊢; omega) with ⟨h2, e2⟩ | ⟨h2, e2⟩
    · omega
    · rw [e1, e2]; exact hu.grown hg hk
theorem OwnLats.snoc {w w' : World} {rb base : Nat} (hrb : base ≤ rb) {v v' u : Value} {k : Int} {ls : List (Int × List UInt8)} {b : List UInt8} {vs : List (Int × Value)} (he : vs.length = ls.length) (ho : w.ownsRow rb 60 2 v ls.length (lcells vs))
    (hv : ∀ i, i < ls.length → (vs.getD i (0, .bool false)).1 = (ls.getD i (0, [])).1 ∧ ByE w base (vs.getD i (0, .bool false)).2 (ls.getD i (0, [])).2)
    (hu : ByE w base u b) (ho' : w'.ownsRow rb 60 2 v' (ls.length + 1) (lcells vs ++ [.int .i64 k, u])) (hg : w.grownBy w' v.ownBlock) : OwnLats w' rb base v' (ls ++ [(k, b)]) := by
  have hk := fun g e => (row_kind ho (by decide) g e).imp (fun h => Nat.le_trans hrb h) id
  refine ⟨vs ++ [(k, u)], by simp [he], by rw [lcells_append, List.length_append]; exact ho', fun i hi => ?_⟩
  rcases getD_snoc (0, []) ls (k, b) i hi with ⟨h1, e1⟩ | ⟨h1, e1⟩
  · rcases getD_snoc (0, .bool false) vs (k, u) i (by simp at hi ⊢; omega) with ⟨h2, e2⟩ | ⟨h2, e2⟩
    · rw [e1, e2]; exact ⟨(hv i h1).1, (hv i h1).2.grown hg hk⟩
    · omega
  · rcases getD_snoc (0, .bool false) vs (k, u) i (by simp at hi ⊢; omega) with ⟨h2, e2⟩ | ⟨h2, e2⟩
    · omega
    · rw [e1, e2]; exact ⟨rfl, hu.grown hg hk⟩

end Go.Proofs.Ytnganglmpcbcbaa
