/- A row of the call's own: one element stored anew. No walk here. -/
import Derived.Test.YtnganglmpcbcbaaKit3
namespace Go.Proofs.Ytnganglmpcbcbaa
open Go Go.RowKit

theorem take_set_list {α : Type} (l : List α) (n i : Nat) (x : α) : (l.set i x).take n = (l.take n).set i x := by
  apply List.ext_getElem?
  intro j
  rw [List.getElem?_take, List.getElem?_set, List.getElem?_set, List.getElem?_take, List.length_take]
  by_cases h1 : j < n
  · by_cases h2 : i = j
    · subst h2
      simp only [h1, if_true]
      by_cases h3 : i < l.length
      · rw [if_pos h3, if_pos (by omega)]
      · rw [if_neg h3, if_neg (by omega)]
    · simp [h1, h2]
  · by_cases h2 : i = j
    · subst h2
      simp only [h1, if_false, if_true]
      rw [if_neg (by omega)]
    · simp [h1, h2]
/-- A row of one-cell elements, one stored anew. -/
theorem own_setAt {w : World} {rb e n c i : Nat} {A : Option Addr} {vs : List Value} (h : w.ownsRow rb e 1 (.slice A n c) n vs) (hi : i < n) :
    ∃ g, A = some ⟨g, 0, none⟩ ∧ rb ≤ g ∧ Kd w g e ∧ w.frozen? ⟨g, i, none⟩ = false ∧ w.cell? ⟨g, i, none⟩ = vs[i]? ∧ ∀ u, (w.setCell ⟨g, i, none⟩ u).ownsRow rb e 1 (.slice A n c) n (vs.set i u) := by
  obtain ⟨hl, h⟩ := h
  rcases h with ⟨_, h⟩ | ⟨g, cap, cur, hv, hg, hh, hc, hm, hs, ht⟩
  · omega
  · injection hv with h1 h2 h3
    subst h1 h3
    refine ⟨g, rfl, hg, ⟨cur, hh⟩, by simp [World.frozen?, hh], ?_, fun u => ⟨by rw [List.length_set, hl], .inr ⟨g, c, cur.setIfInBounds i u, rfl, hg, ?_, hc, hm, by simpa using hs, ?_⟩⟩⟩
    · rw [← ht, List.getElem?_take, if_pos (by omega)]
      simp [World.cell?, hh]
    · simp [World.setCell, Array.getElem?_modify, hh]
    · rw [Array.toList_setIfInBounds, take_set_list, ht]
theorem OwnRow.setAt {w : World} {rb base n c i : Nat} {A : Option Addr} {bs : List (List UInt8)} (h : OwnRow eBlk w rb base (.slice A n c) bs) (hi : i < n) (hb : base ≤ rb) :
    ∃ g old, A = some ⟨g, 0, none⟩ ∧ rb ≤ g ∧ Kd w g 22 ∧ w.frozen? ⟨g, i, none⟩ = false ∧ w.cell? ⟨g, i, none⟩ = some old ∧ ByT w base old (bs.getD i []) ∧
      ∀ u b, ByT w base u b → OwnRow eBlk (w.setCell ⟨g, i, none⟩ u) rb base (.slice A n c) (bs.set i b) := by
  obtain ⟨css, hc, ho⟩ := h
  obtain ⟨vs, rfl, hvl, hv⟩ := css_single _ _ _ hc
  rw [map_single_flat] at ho
  have hn : n = bs.length := by
    rcases ho.2 with ⟨h1, h2⟩ | ⟨g, cap, cur, h1, _⟩
    · injection h1 with _ h1 _; omega
    · injection h1
  subst hn
  obtain ⟨g, hA, hg, hk, hf, hcell, hset⟩ := own_setAt ho hi
  refine ⟨g, vs.getD i (.bool false), hA, hg, hk, hf, ?_, hv i hi, fun u b hu => ?_⟩
  · rw [hcell, List.getD_eq_getElem?_getD, List.getElem?_eq_getElem (by omega)]
    rfl
  · have kk : Kept [] base w (w.setCell ⟨g, i, none⟩ u) := (Kept.refl _ _ _).setK hk (by decide) (by omega) _ _
    refine ⟨(vs.set i u).map fun v => [v], ⟨by simp [hvl], fun j hj => ?_⟩, by rw [map_single_flat, List.length_set]; exact hset u⟩
    rw [List.length_set] at hj
    rw [getD_map _ (.bool false) _ _ _ (by rw [List.length_set]; omega), getD_set, getD_set]
    refine ⟨_, rfl, ?_⟩
    by_cases e : i = j
    · rw [if_pos ⟨e, by omega⟩, if_pos ⟨e, hi⟩]
      exact hu.kept kk
    · rw [if_neg (fun h => e h.1), if_neg (fun h => e h.1)]
      exact (hv j hj).kept kk

end Go.Proofs.Ytnganglmpcbcbaa
