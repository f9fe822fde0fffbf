/- Regions that draw: one of three operations comes up. No program here. -/
import Derived.Test.YtnganglmpcbcbaaMix
namespace Go.Proofs.Ytnganglmpcbcbaa
open Go Go.RowKit
section
variable {P : Program} {Q : Exit → Act → World → Prop} {md : Region.Mode} {t : Bool} {X : World → World → Prop}
variable {l : List Oper} {Fs : List Nat} {f : Nat} {listed : Array Bool} {a : Act} {w : World}
/-- One of three comes up. -/
theorem mixS3 (i j k : Nat) {o o' o'' : Oper} (hp : pickF md l.toArray t Fs listed = none) (hr : Region.ready md l.toArray listed = [i, j, k]) (ho : l[i]? = some o) (ho' : l[j]? = some o') (ho'' : l[k]? = some o'')
    (hw : Region.wanted o (yielded l.toArray a.tmps) = true) (hw' : Region.wanted o' (yielded l.toArray a.tmps) = true) (hw'' : Region.wanted o'' (yielded l.toArray a.tmps) = true)
    (h : ∀ K : Act → World → Prop, Shut (∀ a' w', X w w' → wpTree P md l.toArray Q X t Fs f (listed.setIfInBounds i true) a' w' → K a' w') → o.wp P a w K Q)
    (h' : ∀ K : Act → World → Prop, Shut (∀ a' w', X w w' → wpTree P md l.toArray Q X t Fs f (listed.setIfInBounds j true) a' w' → K a' w') → o'.wp P a w K Q)
    (h'' : ∀ K : Act → World → Prop, Shut (∀ a' w', X w w' → wpTree P md l.toArray Q X t Fs f (listed.setIfInBounds k true) a' w' → K a' w') → o''.wp P a w K Q) : wpTree P md l.toArray Q X t Fs (f + 1) listed a w := by
  unfold wpTree
  rw [hp]
  refine ⟨fun h0 => (by rw [hr] at h0; cases h0), fun m hm => ?_⟩
  rw [hr] at hm
  simp only [List.mem_cons, List.not_mem_nil, or_false] at hm
  rcases hm with rfl | rfl | rfl
  · exact mix_op ho hw (h _ fun a' w' h1 h2 => ⟨.inr h1, h2⟩)
  · exact mix_op ho' hw' (h' _ fun a' w' h1 h2 => ⟨.inr h1, h2⟩)
  · exact mix_op ho'' hw'' (h'' _ fun a' w' h1 h2 => ⟨.inr h1, h2⟩)
end
end Go.Proofs.Ytnganglmpcbcbaa
