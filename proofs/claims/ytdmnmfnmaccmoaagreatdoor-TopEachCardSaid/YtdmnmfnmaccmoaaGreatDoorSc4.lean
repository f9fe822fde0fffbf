/- Walks: scref6.Records; and what the document's Begin comes to. -/
import Derived.Test.YtdmnmfnmaccmoaaGreatDoorA5
import Derived.Test.YtdmnmfnmaccmoaaGreatDoorIt1
namespace Go.Proofs.YtdmnmfnmaccmoaaGreatDoor
open Go Go.RowKit
theorem begin_wrong {s : Sto} {d : Ded} (h : mWrong d ≠ 0) : sBegin s d = (s, 0, mWrong d) := by unfold sBegin; rw [if_pos h]
theorem begin_no {s : Sto} {d : Ded} (h : mWrong d = 0) (h2 : (mDo (sRecs s) d).2.2 ≠ 0) : sBegin s d = (s, 0, (mDo (sRecs s) d).2.2) := by unfold sBegin; rw [if_neg (by simpa using h), if_pos h2]
theorem begin_make {s : Sto} {d : Ded} (g : sGood s) (h : mWrong d = 0) (h2 : (mDo (sRecs s) d).2.2 = 0) (hk : d.kind ≠ 3) :
  sBegin s d = (⟨(pPut s.disk (iFree s.index 6) (mMade d (mDo (sRecs s) d).2.1)).1, iIns s.index ⟨mMade d (mDo (sRecs s) d).2.1, iFree s.index 6⟩, s.next⟩, (mDo (sRecs s) d).2.1, 0) ∧ 0 ≤ iFree s.index 6 ∧ iFree s.index 6 < 6 := by
 obtain ⟨a, _, _⟩ := mDo_made hk h2
 obtain ⟨f0, f1, _⟩ := free_found (l := s.index) 6 (by simpa [sRecs] using a)
 have h6 : (s.disk.blocks.length : Int) / 2 = 6 := by rw [g.disk.len]; rfl
 refine ⟨?_, f0, f1⟩
 unfold sBegin
 rw [if_neg (by simpa using h), if_neg (by simpa using h2), if_neg hk, h6, if_neg (by have : (0 : Int) ≤ iFree s.index 6 := f0; omega)]
theorem recs_step {l : List Ent} {a : Nat} (ha : a < l.length) : (l.take (a + 1)).map (fun e => e.rcd) = (l.take a).map (fun e => e.rcd) ++ [(l.getD a ⟨rZero, 0⟩).rcd] := by
 rw [← Cs_getD ha, List.map_append]
 rfl
theorem results_ctt {fn : Func} {p u r : Tmp} {ty : TypeId} (h : fn.results = #[.cell p ty, .tmp u, .tmp r]) (tmps : Array Value) (P : Program) (w : World) :
  (results fn tmps).run P w = ((asAddr (tmps.getD p undef)).run P w).andThen fun a w₁ => ((loadVar ty a).run P w₁).andThen fun x w₂ => .ok (.tuple #[x, tmps.getD u undef, tmps.getD r undef]) w₂ := by
 simp only [results, h]
 simp [Sem.run_bind, Result.andThen]
end Go.Proofs.YtdmnmfnmaccmoaaGreatDoor
