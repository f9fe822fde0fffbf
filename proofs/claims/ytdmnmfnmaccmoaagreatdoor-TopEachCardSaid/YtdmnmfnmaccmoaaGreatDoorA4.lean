/- Texts laid together: words, plain laws and walks of the program's functions (A4). -/
import Derived.Test.YtdmnmfnmaccmoaaGreatDoorPr2
import Derived.Test.YtdmnmfnmaccmoaaGreatDoorPr6
import Derived.Deep.Cut
import Derived.Deep.CutRange
/- Disks that may be worked on: so many writes that have not come, each in place. No walk here. -/
namespace Go.Proofs.YtdmnmfnmaccmoaaGreatDoor
open Go Go.RowKit
structure Fine (d : Dsk) (k : Nat) : Prop where
 ok : DskOk d
 inn : LateIn d
 late : d.late.length ≤ k
theorem Fine.le {d : Dsk} {j k : Nat} (h : Fine d j) (hk : j ≤ k) : Fine d k := ⟨h.ok, h.inn, Nat.le_trans h.late hk⟩
theorem getD_set_len {bs : List (List UInt8)} {j i : Nat} {b : List UInt8} (h : ∀ i, (bs.getD i []).length ≤ 4096) (hb : b.length ≤ 4096) : ((bs.set j b).getD i []).length ≤ 4096 := by
 rw [List.getD_eq_getElem?_getD, List.getElem?_set]
 split
 ·split
  ·simpa using hb
  ·simp
 ·have := h i
  rwa [List.getD_eq_getElem?_getD] at this
theorem fTo_len {l : List (Int × List UInt8)} {bs : List (List UInt8)} (hb : ∀ i, (bs.getD i []).length ≤ 4096) (hl : ∀ i, (l.getD i (0, [])).2.length ≤ 4096) : ∀ k i, ((fTo l bs k).getD i []).length ≤ 4096
 | 0, i => hb i
 | k + 1, _ => getD_set_len (fTo_len hb hl k) (hl k)
theorem kTo_len {l : List (Int × List UInt8)} {bits : Int} {bs : List (List UInt8)} (hb : ∀ i, (bs.getD i []).length ≤ 4096) (hl : ∀ i, (l.getD i (0, [])).2.length ≤ 4096) : ∀ k i, ((kTo l bits bs k).getD i []).length ≤ 4096
 | 0, i => hb i
 | k + 1, i => by
  unfold kTo
  split
  ·exact getD_set_len (kTo_len hb hl k) (hl k)
  ·exact kTo_len hb hl k i
theorem Fine.flush {d : Dsk} {k : Nat} (h : Fine d k) : Fine (dFlush d) 0 :=
 ⟨⟨by show (fTo _ _ _).length ≤ _; rw [fTo_length]; exact h.ok.blocks, by simp [dFlush], fun i => fTo_len h.ok.block h.ok.write _ i, fun i => by simp [dFlush]⟩, fun i hi => absurd hi (by simp [dFlush]), by simp [dFlush]⟩
theorem Fine.keep {d : Dsk} {k : Nat} (h : Fine d k) (bits : Int) : Fine (dKeep d bits) 0 :=
 ⟨⟨by show (kTo _ _ _ _).length ≤ _; rw [kTo_length]; exact h.ok.blocks, by simp [dKeep], fun i => kTo_len h.ok.block h.ok.write _ i, fun i => by simp [dKeep]⟩, fun i hi => absurd hi (by simp [dKeep]), by simp [dKeep]⟩
theorem Fine.put {d : Dsk} {k : Nat} (h : Fine d k) (hk : k + 2 ≤ 4000) (p : Int) (r : Rec) : Fine (pPut d p r).1 (k + 2) := by
 have hl := h.late
 by_cases hp : pIn d p
 ·by_cases hw : rWrong r = 0
  ·rw [pPut_ok hp hw]
   have hb := pIn_blocks hp
   refine ⟨putTo_ok h.ok (by omega) hw 2, fun i hi => ?_, ?_⟩
   ·show 0 ≤ ((d.late ++ [(2 * p, rBytes r (2 * p)), (2 * p + 1, rBytes r (2 * p + 1))]).getD i (0, [])).1 ∧ ((d.late ++ [(2 * p, rBytes r (2 * p)), (2 * p + 1, rBytes r (2 * p + 1))]).getD i (0, [])).1 < d.blocks.length
    rw [List.getD_eq_getElem?_getD, List.getElem?_append]
    split
    ·rename_i hlt
     have := h.inn i hlt
     rwa [List.getD_eq_getElem?_getD] at this
    ·rcases (show i - d.late.length = 0 ∨ i - d.late.length = 1 ∨ 2 ≤ i - d.late.length by omega) with e | e | e
     ·rw [e]; simp; omega
     ·rw [e]; simp; omega
     ·rw [List.getElem?_eq_none (by simpa using e)]; simp; omega
   ·show (d.late ++ _).length ≤ _
    simp
    omega
  ·rw [pPut_wrong hp hw]; exact h.le (by omega)
 ·rw [pPut_out hp]; exact h.le (by omega)
theorem Fine.mend {d : Dsk} {k : Nat} (h : Fine d k) (hk : k + 2 ≤ 4000) (p : Int) : Fine (pMend d p).1 (k + 2) := by
 unfold pMend
 split
 ·exact h.le (by omega)
 ·exact h.put hk p _
end Go.Proofs.YtdmnmfnmaccmoaaGreatDoor
/- The statement PairTells: the walk of the law. -/
namespace Go.Proofs.YtdmnmfnmaccmoaaGreatDoor
open Go Go.RowKit
end Go.Proofs.YtdmnmfnmaccmoaaGreatDoor
/- Walks: the closed fact of chapter 4. -/
namespace Go.Proofs.YtdmnmfnmaccmoaaGreatDoor
open Go Go.RowKit
theorem free_fine : Fine dFree 0 := by
 refine ⟨⟨by decide, by decide, fun i => ?_, fun i => by simp [dFree]⟩, fun i hi => absurd hi (by simp [dFree]), by simp [dFree]⟩
 rcases Nat.lt_or_ge i 12 with h | h
 ·have : ∀ i : Fin 12, (dFree.blocks.getD i.1 []).length ≤ 4096 := by decide +kernel
  exact this ⟨i, h⟩
 ·rw [List.getD_eq_getElem?_getD, List.getElem?_eq_none (by simpa [dFree] using h)]
  simp
end Go.Proofs.YtdmnmfnmaccmoaaGreatDoor
