/- Plain: a right disk is small, and its writes are of blocks that there are. -/
import Derived.Test.YtnganglmpcbcbaaKit4
import Derived.Test.YtnganglmpcbcbaaDsk3
import Derived.Test.YtnganglmpcbcbaaDskRefNew
namespace Go.Proofs.Ytnganglmpcbcbaa
open Go Go.RowKit

theorem dRight_even {d : Dsk} (h : dRight d = true) : d.blocks.length = 12 ∧ d.late.length ≤ 40 ∧ (∀ i, i < 12 → (d.blocks.getD i []).length = 16) ∧ ∀ i, i < d.late.length → (0 ≤ (d.late.getD i (0, [])).1 ∧ (d.late.getD i (0, [])).1 < 12) ∧ (d.late.getD i (0, [])).2.length = 16 := by
  unfold dRight at h
  simp only [Bool.and_eq_true, decide_eq_true_eq] at h
  obtain ⟨⟨⟨h1, h2⟩, h3⟩, h4⟩ := h
  refine ⟨h1, h2, fun i hi => ?_, fun i hi => ?_⟩
  · have := List.all_eq_true.1 h3 _ (List.getElem_mem (show i < d.blocks.length by omega))
    rw [List.getD_eq_getElem?_getD, List.getElem?_eq_getElem (by omega)]
    simpa using this
  · have := List.all_eq_true.1 h4 _ (List.getElem_mem hi)
    unfold lRight at this
    simp only [Bool.and_eq_true, decide_eq_true_eq] at this
    rw [List.getD_eq_getElem?_getD, List.getElem?_eq_getElem hi]
    exact this
theorem dRight_ok {d : Dsk} (h : dRight d = true) : DskOk d ∧ LateIn d := by
  obtain ⟨h1, h2, h3, h4⟩ := dRight_even h
  refine ⟨⟨by omega, by omega, fun i => ?_, fun i => ?_⟩, fun i hi => ?_⟩
  · rcases Nat.lt_or_ge i 12 with hi | hi
    · rw [h3 i hi]; omega
    · rw [List.getD_eq_getElem?_getD, List.getElem?_eq_none (by omega)]; simp
  · rcases Nat.lt_or_ge i d.late.length with hi | hi
    · rw [(h4 i hi).2]; omega
    · rw [List.getD_eq_getElem?_getD, List.getElem?_eq_none (by omega)]; simp
  · have := (h4 i hi).1
    rw [h1]
    exact this
theorem dRight_dEven {d : Dsk} (h : dRight d = true) : d.blocks.length = 12 ∧ ∀ j, j < 12 → (d.blocks.getD j []).length = 16 := ⟨(dRight_even h).1, (dRight_even h).2.2.1⟩
theorem refNew_v (w : World) : Calls Try.prog 47 #[] w fun e w' => ∃ v, e = .returned v ∧ OwnD w w' v dFree ∧ Ext w w' :=
  (refNew_w w).mono fun _ _ ⟨v, h1, h2, h3⟩ => ⟨v, h1, h2.ownD, h3⟩
/-- A disk's value, its parts named. -/
theorem DskV.parts {T : List TypeId} {w : World} {base : Nat} {v : Value} {d : Dsk} (h : DskV T w base v d) : ∃ A n c E m e, v = .agg #[.slice A n c, .slice E m e] := by
  obtain ⟨A, n, c, E, m, e, h, _⟩ := h.form
  exact ⟨A, n, c, E, m, e, h⟩
theorem OwnD.v {w0 w : World} {v : Value} {d : Dsk} (h : OwnD w0 w v d) : DskV tD w 0 v d := h.dskV (List.Subset.refl _)

end Go.Proofs.Ytnganglmpcbcbaa
