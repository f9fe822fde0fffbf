/- Texts laid together: words, plain laws and walks of the program's functions (A4). -/
import Derived.Test.YtmcgbdbhpnplmaaGreatPr2
import Derived.Test.YtmcgbdbhpnplmaaGreatPr6
import Derived.Deep.Cut
import Derived.Deep.CutRange
/- Disks that may be worked on: so many writes that have not come, each in place. No walk here. -/
namespace Go.Proofs.YtmcgbdbhpnplmaaGreat
open Go Go.RowKit

structure Fine (d : Dsk) (k : Nat) : Prop where
 ok : DskOk d
 inn : LateIn d
 late : d.late.length ≤ k
theorem dRight_fine {d : Dsk} (h : dRight d = true) : Fine d 40 := ⟨(dRight_ok h).1, (dRight_ok h).2, (dRight_even h).2.1⟩
theorem Fine.le {d : Dsk} {j k : Nat} (h : Fine d j) (hk : j ≤ k) : Fine d k := ⟨h.ok, h.inn, Nat.le_trans h.late hk⟩
theorem getD_set_len {bs : List (List UInt8)} {j i : Nat} {b : List UInt8} (h : ∀ i, (bs.getD i []).length ≤ 4096) (hb : b.length ≤ 4096) : ((bs.set j b).getD i []).length ≤ 4096 := by
 rw [List.getD_eq_getElem?_getD, List.getElem?_set]
 split
 ·split
  ·simpa using hb
  ·simp
 ·have := h i
  rwa [List.getD_eq_getElem?_getD] at this
theorem fTo_len {l : List (Int × List UInt8)} {bs : List (List UInt8)} (hb : ∀ i, (bs.getD i []).length ≤ 4096) (hl : ∀ i, (l.getD i (0, [])).2.length ≤ 4096) : ∀ k i, ((fTo l bs k).getD i []).length ≤ 4096
 | 0, i => hb i
 | k + 1, _ => getD_set_len (fTo_len hb hl k) (hl k)
theorem kTo_len {l : List (Int × List UInt8)} {bits : Int} {bs : List (List UInt8)} (hb : ∀ i, (bs.getD i []).length ≤ 4096) (hl : ∀ i, (l.getD i (0, [])).2.length ≤ 4096) : ∀ k i, ((kTo l bits bs k).getD i []).length ≤ 4096
 | 0, i => hb i
 | k + 1, i => by
  unfold kTo
  split
  ·exact getD_set_len (kTo_len hb hl k) (hl k)
  ·exact kTo_len hb hl k i
theorem Fine.flush {d : Dsk} {k : Nat} (h : Fine d k) : Fine (dFlush d) 0 :=
 ⟨⟨by show (fTo _ _ _).length ≤ _; rw [fTo_length]; exact h.ok.blocks, by simp [dFlush], fun i => fTo_len h.ok.block h.ok.write _ i, fun i => by simp [dFlush]⟩, fun i hi => absurd hi (by simp [dFlush]), by simp [dFlush]⟩
theorem Fine.keep {d : Dsk} {k : Nat} (h : Fine d k) (bits : Int) : Fine (dKeep d bits) 0 :=
 ⟨⟨by show (kTo _ _ _ _).length ≤ _; rw [kTo_length]; exact h.ok.blocks, by simp [dKeep], fun i => kTo_len h.ok.block h.ok.write _ i, fun i => by simp [dKeep]⟩, fun i hi => absurd hi (by simp [dKeep]), by simp [dKeep]⟩
theorem Fine.spoil {d : Dsk} {k : Nat} (h : Fine d k) (a n y : Int) : Fine (dSpoil d a n y) k := by
 unfold dSpoil
 split
 ·refine ⟨⟨by simpa using h.ok.blocks, h.ok.late, fun i => getD_set_len h.ok.block (by rw [List.length_set]; exact h.ok.block _), h.ok.write⟩, fun i hi => ?_, h.late⟩
  have := h.inn i hi
  simpa using this
 ·exact h
theorem Fine.put {d : Dsk} {k : Nat} (h : Fine d k) (hk : k + 2 ≤ 4000) (p : Int) (r : Rec) : Fine (pPut d p r).1 (k + 2) := by
 have hl := h.late
 by_cases hp : pIn d p
 ·by_cases hw : rWrong r = 0
  ·rw [pPut_ok hp hw]
   have hb := pIn_blocks hp
   refine ⟨putTo_ok h.ok (by omega) hw 2, fun i hi => ?_, ?_⟩
   ·show 0 ≤ ((d.late ++ [(2 * p, rBytes r (2 * p)), (2 * p + 1, rBytes r (2 * p + 1))]).getD i (0, [])).1 ∧ ((d.late ++ [(2 * p, rBytes r (2 * p)), (2 * p + 1, rBytes r (2 * p + 1))]).getD i (0, [])).1 < d.blocks.length
    rw [List.getD_eq_getElem?_getD, List.getElem?_append]
    split
    ·rename_i hlt
     have := h.inn i hlt
     rwa [List.getD_eq_getElem?_getD] at this
    ·rcases (show i - d.late.length = 0 ∨ i - d.late.length = 1 ∨ 2 ≤ i - d.late.length by omega) with e | e | e
     ·rw [e]; simp; omega
     ·rw [e]; simp; omega
     ·rw [List.getElem?_eq_none (by simpa using e)]; simp; omega
   ·show (d.late ++ _).length ≤ _
    simp
    omega
  ·rw [pPut_wrong hp hw]; exact h.le (by omega)
 ·rw [pPut_out hp]; exact h.le (by omega)
theorem Fine.mend {d : Dsk} {k : Nat} (h : Fine d k) (hk : k + 2 ≤ 4000) (p : Int) : Fine (pMend d p).1 (k + 2) := by
 unfold pMend
 split
 ·exact h.le (by omega)
 ·exact h.put hk p _
theorem dRight_in {d : Dsk} (h : dRight d = true) {p : Int} (h0 : 0 ≤ p) (h6 : p < 6) : pIn d p := by
 have := (dRight_even h).1
 unfold pIn
 rw [this]
 omega
end Go.Proofs.YtmcgbdbhpnplmaaGreat

/- The statement PairTells: the walk of the law. -/
namespace Go.Proofs.YtmcgbdbhpnplmaaGreat
open Go Go.RowKit

theorem dSame_id (d : Dsk) : dSame d d = true := (dSame_iff d d).2 rfl
theorem rSame_id (r : Rec) : rSame r r = true := (rSame_iff r r).2 rfl
end Go.Proofs.YtmcgbdbhpnplmaaGreat

/- Walks: the closed fact of chapter 4. -/
namespace Go.Proofs.YtmcgbdbhpnplmaaGreat
open Go Go.RowKit

/-- A disk in a box. -/
def BoxD (w : World) (p : Value) (d : Dsk) : Prop := ∃ g A n c E m e, p = .pointer (some ⟨g, 0, none⟩) ∧ Box w g 30 #[.slice A n c, .slice E m e] ∧ DskV tD w 0 (.agg #[.slice A n c, .slice E m e]) d
theorem free_fine : Fine dFree 0 := by
 refine ⟨⟨by decide, by decide, fun i => ?_, fun i => by simp [dFree]⟩, fun i hi => absurd hi (by simp [dFree]), by simp [dFree]⟩
 rcases Nat.lt_or_ge i 12 with h | h
 ·have : ∀ i : Fin 12, (dFree.blocks.getD i.1 []).length ≤ 4096 := by decide +kernel
  exact this ⟨i, h⟩
 ·rw [List.getD_eq_getElem?_getD, List.getElem?_eq_none (by simpa [dFree] using h)]
  simp
def qR : Rec := ⟨2, 7, 3, []⟩
def qD : Dsk := (pPut dFree 1 qR).1
def qS : Dsk := dSpoil (dFlush qD) 2 4 1
theorem qIn : pIn dFree 1 := by unfold pIn dFree; decide
theorem qW : rWrong qR = 0 := by decide
theorem qE : (pPut dFree 1 qR).2 = 0 := by rw [pPut_ok qIn qW]
theorem qL1 : pLook qD 1 = (1, qR) := pLook_put qIn (by decide) qW
theorem qL2 : pLook qS 1 = (2, qR) := pSpoil_one qIn (by decide) qW (by decide) (.inl rfl) (by decide) (by decide) free_fine.inn
theorem qLate : qS.late.length = 0 := by
 unfold qS dSpoil
 split <;> simp [dFlush]
theorem qBlk : qS.blocks.length = 12 := by
 have h : (dFlush qD).blocks.length = 12 := by
  show (fTo _ _ _).length = _
  rw [fTo_length]
  unfold qD
  rw [pPut_ok qIn qW]
  decide
 unfold qS dSpoil
 split
 ·simpa using h
 ·exact h
theorem qM : (pMend qS 1).2 = 2 ∧ (pMend qS 1).1.late.length = 2 := by
 have hi : pIn qS 1 := by unfold pIn; rw [qBlk]; decide
 unfold pMend
 rw [qL2]
 rw [if_neg (by decide)]
 refine ⟨rfl, ?_⟩
 simp only
 rw [pPut_ok hi qW]
 show (qS.late ++ _).length = 2
 rw [List.length_append, qLate]
 rfl
theorem fine_D : Fine qD 2 := free_fine.put (by omega) 1 qR
theorem fine_S : Fine qS 0 := fine_D.flush.spoil 2 4 1

end Go.Proofs.YtmcgbdbhpnplmaaGreat

