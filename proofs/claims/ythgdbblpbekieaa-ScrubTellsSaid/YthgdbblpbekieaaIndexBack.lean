/- The statement IndexBack: the walk of the law. -/
import Derived.Test.YthgdbblpbekieaaAlive5
namespace Go.Proofs.Ythgdbblpbekieaa
open Go Go.RowKit

/-- A row of one entry, just laid. -/
theorem row_one {w : World} {base : Nat} {e : Ent} {u : Value} (h : ByT w base u e.rcd.data) : Row eEnt [74] (w.alloc (.cells (cE e u) 74)) base (.slice (some ⟨w.heap.size, 0, none⟩) 1 1) [e] := by
 refine OwnRow.row (rb := w.heap.size) (base := base) (OwnRow.shut5 (Nat.le_refl _) (Box.new w _ _ rfl) rfl (Nat.le_refl _) (by unfold maxLen; omega) rfl (fun i hi => ?_)) (by decide) (Nat.le_refl _)
 obtain rfl : i = 0 := by omega
 exact ⟨u, rfl, rfl, rfl, rfl, rfl, h.ext (ext_alloc _ _)⟩
theorem filter_len (p : Int → Bool) : ∀ l : List Int, l.length = (l.filter p).length + (l.filter fun x => !p x).length
 | [] => rfl
 | x :: l => by
  have := filter_len p l
  cases h : p x <;> simp [h] <;> omega
theorem nodup_len : ∀ (n : Nat) (l : List Int), l.Pairwise (· ≠ ·) → (∀ x ∈ l, 0 ≤ x ∧ x < n) → l.length ≤ n
 | 0, l, _, h => by
  cases l with
  | nil => simp
  | cons x l => have := h x (by simp); omega
 | n + 1, l, hp, h => by
  have h1 := nodup_len n (l.filter fun x => !decide (x = (n : Int))) (hp.filter _) (fun x hx => by
   rw [List.mem_filter] at hx
   have := h x hx.1
   have h2 : x ≠ n := by simpa using hx.2
   omega)
  have h2 : (l.filter fun x => decide (x = (n : Int))).length ≤ 1 := by
   have hp2 := hp.filter (fun x => decide (x = (n : Int)))
   have ha : ∀ x ∈ l.filter (fun x => decide (x = (n : Int))), x = n := fun x hx => by simpa using (List.mem_filter.1 hx).2
   generalize l.filter (fun x => decide (x = (n : Int))) = m at hp2 ha
   match m, hp2, ha with
   | [], _, _ => simp
   | [x], _, _ => simp
   | x :: y :: r, hp2, ha => exact absurd ((ha x (by simp)).trans (ha y (by simp)).symm) ((List.pairwise_cons.1 hp2).1 y (by simp))
  have h3 : l.length = (l.filter fun x => decide (x = (n : Int))).length + (l.filter fun x => !decide (x = (n : Int))).length := by
   exact filter_len _ l
  omega
theorem right_len {l : List Ent} (h : iRight l) : l.length ≤ 1001 := by
 have h1 := nodup_len 1001 (l.map (·.pair)) (by rw [List.pairwise_map]; exact h.2.2) (fun x hx => by
  obtain ⟨e, he, rfl⟩ := List.mem_map.1 hx
  have := (eOne_iff e).1 (h.1 e he)
  omega)
 simpa using h1
theorem right_small {l : List Ent} (h : iRight l) : ∀ e ∈ l, e.rcd.data.length ≤ 4096 := fun e he => by
 have := (rWrong_zero' ((eOne_iff e).1 (h.1 e he)).1).1
 omega
theorem right_single (e : Ent) : iRight [e] ↔ eOne e = true := ⟨fun h => h.1 e (by simp), fun h => ⟨by simpa using h, List.pairwise_singleton _ _, List.pairwise_singleton _ _⟩⟩
theorem esSame_id (l : List Ent) : esSame l l = true := by simp [esSame]

end Go.Proofs.Ythgdbblpbekieaa

