/- Walks: scref1.Look. Two operations that are ready at once, beside operations that yield in whatever world. -/
import Derived.Test.YtdmnmfnmaccmoaaGreatDoorPr1
import Derived.Test.YtdmnmfnmaccmoaaGreatDoorMixU
namespace Go.Proofs.YtdmnmfnmaccmoaaGreatDoor
open Go Go.RowKit
section
variable {P : Program} {Q : Exit → Act → World → Prop} {md : Region.Mode} {X : World → World → Prop} {Us : List Nat} {l : List Oper} {Fs : List Nat} {f : Nat} {listed : Array Bool} {a : Act} {w : World}
end
theorem dLast_len {l : List (Int × List UInt8)} {k : Int} : ∀ {b : List UInt8}, b.length ≤ 4096 → (∀ x ∈ l, x.2.length ≤ 4096) → (dLast l k b).length ≤ 4096 := by
 unfold dLast
 induction l with
 | nil => intro b h _; exact h
 | cons x l ih =>
  intro b h hx
  rw [List.foldl_cons]
  refine ih ?_ fun y hy => hx y (by simp [hy])
  split
  ·exact hx x (by simp)
  ·exact h
theorem DskOk.get {d : Dsk} (h : DskOk d) (k : Int) : (dGet d k).1.length ≤ 4096 := by
 unfold dGet
 split
 ·simp
 ·refine dLast_len (h.block _) fun x hx => ?_
  obtain ⟨i, hi, rfl⟩ := List.getElem_of_mem hx
  have := h.write i
  rwa [List.getD_eq_getElem?_getD, List.getElem?_eq_getElem hi] at this
end Go.Proofs.YtdmnmfnmaccmoaaGreatDoor
