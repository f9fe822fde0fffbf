/- Walks: scref1.RightIndex. -/
import Derived.Test.YtmcgbdbhpnplmaaGreatIx4
import Derived.Test.YtmcgbdbhpnplmaaGreatIx2
import Derived.Test.YtmcgbdbhpnplmaaGreatPr2
namespace Go.Proofs.YtmcgbdbhpnplmaaGreat
open Go Go.RowKit

theorem right_nil : iRight [] := ⟨by simp, List.Pairwise.nil, List.Pairwise.nil⟩
theorem right_step {l : List Ent} {a : Nat} (ha : a < l.length) (h : iRight (l.take a)) (h1 : eOne (l.getD a ⟨rZero, 0⟩) = true) (h2 : ∀ b, a = b + 1 → eLt (l.getD b ⟨rZero, 0⟩) (l.getD a ⟨rZero, 0⟩)) (h3 : ∀ y ∈ l.take a, y.pair ≠ (l.getD a ⟨rZero, 0⟩).pair) : iRight (l.take (a + 1)) := by
 rw [← Cs_getD ha]
 obtain ⟨p1, p2, p3⟩ := h
 refine ⟨fun e he => ?_, ?_, ?_⟩
 ·rcases List.mem_append.1 he with he | he
  ·exact p1 e he
  ·rw [List.mem_singleton.1 he]; exact h1
 ·rw [List.pairwise_append]
  refine ⟨p2, List.pairwise_singleton _ _, fun x hx y hy => ?_⟩
  rw [List.mem_singleton.1 hy]
  rcases a with _ | b
  ·simp at hx
  ·have hb := h2 b rfl
   rw [← Cs_getD (by omega : b < l.length)] at hx p2
   rcases List.mem_append.1 hx with hx | hx
   ·exact eLt_trans ((List.pairwise_append.1 p2).2.2 x hx _ (by simp)) hb
   ·rw [List.mem_singleton.1 hx]; exact hb
 ·rw [List.pairwise_append]
  refine ⟨p3, List.pairwise_singleton _ _, fun x hx y hy => ?_⟩
  rw [List.mem_singleton.1 hy]
  exact h3 x hx
theorem right_take {l : List Ent} (h : iRight l) (a : Nat) : iRight (l.take a) := iRight_sub h (List.take_sublist a l)
theorem right_one {l : List Ent} (h : iRight l) {a : Nat} (ha : a < l.length) : eOne (l.getD a ⟨rZero, 0⟩) = true := h.1 _ (ent_mem ha)
theorem right_lt {l : List Ent} (h : iRight l) {a : Nat} (ha : a + 1 < l.length) : eLt (l.getD a ⟨rZero, 0⟩) (l.getD (a + 1) ⟨rZero, 0⟩) := by
 have := List.pairwise_iff_getElem.1 h.2.1 a (a + 1) (by omega) ha (by omega)
 simpa [List.getD_eq_getElem?_getD, List.getElem?_eq_getElem ha, List.getElem?_eq_getElem (by omega : a < l.length)] using this
theorem right_ne {l : List Ent} (h : iRight l) {i a : Nat} (hi : i < a) (ha : a < l.length) : (l.getD i ⟨rZero, 0⟩).pair ≠ (l.getD a ⟨rZero, 0⟩).pair := by
 have := List.pairwise_iff_getElem.1 h.2.2 i a (by omega) ha hi
 simpa [List.getD_eq_getElem?_getD, List.getElem?_eq_getElem ha, List.getElem?_eq_getElem (by omega : i < l.length)] using this
theorem take_mem {l : List Ent} {a : Nat} {y : Ent} (h : y ∈ l.take a) : ∃ i, i < a ∧ i < l.length ∧ y = l.getD i ⟨rZero, 0⟩ := by
 obtain ⟨i, hi, rfl⟩ := List.getElem_of_mem h
 rw [List.length_take] at hi
 refine ⟨i, by omega, by omega, ?_⟩
 rw [List.getD_eq_getElem?_getD, List.getElem?_eq_getElem (by omega)]
 simp
theorem eOne_iff (e : Ent) : eOne e = true ↔ rWrong e.rcd = 0 ∧ e.rcd.kind ≠ 1 ∧ 0 ≤ e.pair ∧ e.pair ≤ 1000 := by
 unfold eOne rOne
 simp [and_assoc]

end Go.Proofs.YtmcgbdbhpnplmaaGreat

