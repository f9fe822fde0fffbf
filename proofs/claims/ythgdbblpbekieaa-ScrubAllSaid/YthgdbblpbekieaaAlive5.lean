/- Walks: the closed fact of chapter 5. -/
import Derived.Test.YthgdbblpbekieaaAlive4
import Derived.Test.YthgdbblpbekieaaIx5
import Derived.Test.YthgdbblpbekieaaIx6
import Derived.Test.YthgdbblpbekieaaIx10
import Derived.Test.YthgdbblpbekieaaIx11
import Derived.Deep.Cut
import Derived.Deep.CutRange
namespace Go.Proofs.Ythgdbblpbekieaa
open Go Go.RowKit

def q2D : Dsk := (pPut dFree 2 qR).1
theorem q2In : pIn dFree 2 := by unfold pIn dFree; decide
theorem q2E : (pPut dFree 2 qR).2 = 0 := by rw [pPut_ok q2In qW]
theorem q2F : Fine q2D 2 := free_fine.put (by omega) 2 qR
def eA : Ent := ⟨qR, 2⟩
def eB : Ent := ⟨⟨3, 7, 4, []⟩, 0⟩
theorem q2S : iScan q2D = [eA] := by decide +kernel
theorem ins2 {l' : List Ent} (h : l'.Perm ([eA] ++ [eB])) (hs : l'.Pairwise fun a b => ¬ eLt b a) : l' = [eA, eB] := by
 have hp : ∀ x ∈ [eA], x.pair ≠ eB.pair := by decide
 have hl : [eA].Pairwise eLt := List.pairwise_singleton _ _
 have h1 : ([eA] ++ [eB]).Pairwise fun a b => a.pair ≠ b.pair := by decide
 rw [ins_unique h hl hp (sorted_strict hs (perm_pairs h h1))]
 decide
theorem small2 : ∀ e ∈ [eA, eB], e.rcd.data.length ≤ 4096 := by decide

end Go.Proofs.Ythgdbblpbekieaa

