/- Walks: the closed fact of chapter 4. -/
import Derived.Test.YthgdbblpbekieaaPairTells
import Derived.Deep.Cut
import Derived.Deep.CutRange
namespace Go.Proofs.Ythgdbblpbekieaa
open Go Go.RowKit

/-- A disk in a box. -/
def BoxD (w : World) (p : Value) (d : Dsk) : Prop := ∃ g A n c E m e, p = .pointer (some ⟨g, 0, none⟩) ∧ Box w g 42 #[.slice A n c, .slice E m e] ∧ DskV tD w 0 (.agg #[.slice A n c, .slice E m e]) d
theorem free_fine : Fine dFree 0 := by
 refine ⟨⟨by decide, by decide, fun i => ?_, fun i => by simp [dFree]⟩, fun i hi => absurd hi (by simp [dFree]), by simp [dFree]⟩
 rcases Nat.lt_or_ge i 12 with h | h
 ·have : ∀ i : Fin 12, (dFree.blocks.getD i.1 []).length ≤ 4096 := by decide +kernel
  exact this ⟨i, h⟩
 ·rw [List.getD_eq_getElem?_getD, List.getElem?_eq_none (by simpa [dFree] using h)]
  simp
def qR : Rec := ⟨2, 7, 3, []⟩
def qD : Dsk := (pPut dFree 1 qR).1
def qS : Dsk := dSpoil (dFlush qD) 2 4 1
theorem qIn : pIn dFree 1 := by unfold pIn dFree; decide
theorem qW : rWrong qR = 0 := by decide
theorem qE : (pPut dFree 1 qR).2 = 0 := by rw [pPut_ok qIn qW]
theorem qL1 : pLook qD 1 = (1, qR) := pLook_put qIn (by decide) qW
theorem qL2 : pLook qS 1 = (2, qR) := pSpoil_one qIn (by decide) qW (by decide) (.inl rfl) (by decide) (by decide) free_fine.inn
theorem qLate : qS.late.length = 0 := by
 unfold qS dSpoil
 split <;> simp [dFlush]
theorem qBlk : qS.blocks.length = 12 := by
 have h : (dFlush qD).blocks.length = 12 := by
  show (fTo _ _ _).length = _
  rw [fTo_length]
  unfold qD
  rw [pPut_ok qIn qW]
  decide
 unfold qS dSpoil
 split
 ·simpa using h
 ·exact h
theorem qM : (pMend qS 1).2 = 2 ∧ (pMend qS 1).1.late.length = 2 := by
 have hi : pIn qS 1 := by unfold pIn; rw [qBlk]; decide
 unfold pMend
 rw [qL2]
 rw [if_neg (by decide)]
 refine ⟨rfl, ?_⟩
 simp only
 rw [pPut_ok hi qW]
 show (qS.late ++ _).length = 2
 rw [List.length_append, qLate]
 rfl
theorem fine_D : Fine qD 2 := free_fine.put (by omega) 1 qR
theorem fine_S : Fine qS 0 := fine_D.flush.spoil 2 4 1

end Go.Proofs.Ythgdbblpbekieaa

