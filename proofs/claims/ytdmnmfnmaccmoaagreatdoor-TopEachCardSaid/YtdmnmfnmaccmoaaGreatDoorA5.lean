/- Texts laid together: words, plain laws and walks of the program's functions (A5). -/
import Derived.RangeFuncNested
import Derived.RangeFuncBound
import Derived.RangeFuncCalls
import Derived.RangeFuncLeaves
import Derived.RangeFuncBox
import Derived.Shelf.Abstract
import Derived.Shelf.RegionOpen
import Derived.WalkKit
import Derived.OwnWalkIn
import Derived.TacticsInMore
import Derived.LoopNIn
import Derived.LoopIn
import Derived.Test.YtdmnmfnmaccmoaaGreatDoorIx7
import Derived.Test.YtdmnmfnmaccmoaaGreatDoorA4
import Derived.Test.YtdmnmfnmaccmoaaGreatDoorIx5
import Derived.Test.YtdmnmfnmaccmoaaGreatDoorIx6
import Derived.Test.YtdmnmfnmaccmoaaGreatDoorIxA
import Derived.Deep.Cut
import Derived.Deep.CutRange
/- Walks: slices.Backward of entries, ranged over; index.Last. -/
namespace Go.Proofs.YtdmnmfnmaccmoaaGreatDoor
open Go Go.RowKit Go.Shelf
attribute [local go_sem] Oper.semAt_some
structure Elems (w : World) (base : Nat) (A : Option Addr) (n : Nat) (en : Nat → Ent) (q : Nat → Option Addr × Nat × Nat) : Prop where
 data : ∀ i, ByT w base (.slice (q i).1 (q i).2.1 (q i).2.2) (en i).rcd.data
 cells : ∀ i, i < n → ∃ b o, A = some ⟨b, o, none⟩ ∧ ∀ w', Ext w w' → w'.cell? ⟨b, o + i * 5, none⟩ = some (.int .i64 (en i).rcd.kind) ∧ w'.cell? ⟨b, o + i * 5 + 1, none⟩ = some (.int .i64 (en i).rcd.key) ∧
  w'.cell? ⟨b, o + i * 5 + 2, none⟩ = some (.int .i64 (en i).rcd.ver) ∧ w'.cell? ⟨b, o + i * 5 + 3, none⟩ = some (.slice (q i).1 (q i).2.1 (q i).2.2) ∧ w'.cell? ⟨b, o + i * 5 + 4, none⟩ = some (.int .i64 (en i).pair)
theorem Row.elems {T : List TypeId} {w : World} {base n c : Nat} {A : Option Addr} {l : List Ent} (h : Row eEnt T w base (.slice A n c) l) (hn : n = l.length) : ∃ q, Elems w base A n (fun i => l.getD i ⟨rZero, 0⟩) q := by
 have each : ∀ i, i < n → ∃ q : Option Addr × Nat × Nat, ByT w base (.slice q.1 q.2.1 q.2.2) (l.getD i ⟨rZero, 0⟩).rcd.data ∧ ∃ b o, A = some ⟨b, o, none⟩ ∧ ∀ w', Ext w w' → w'.cell? ⟨b, o + i * 5, none⟩ = some (.int .i64 (l.getD i ⟨rZero, 0⟩).rcd.kind) ∧ w'.cell? ⟨b, o + i * 5 + 1, none⟩ = some (.int .i64 (l.getD i ⟨rZero, 0⟩).rcd.key) ∧
  w'.cell? ⟨b, o + i * 5 + 2, none⟩ = some (.int .i64 (l.getD i ⟨rZero, 0⟩).rcd.ver) ∧ w'.cell? ⟨b, o + i * 5 + 3, none⟩ = some (.slice q.1 q.2.1 q.2.2) ∧ w'.cell? ⟨b, o + i * 5 + 4, none⟩ = some (.int .i64 (l.getD i ⟨rZero, 0⟩).pair) := by
  intro i hi
  obtain ⟨b, o, u, hA, _, hu, hc⟩ := h.ent_x hi
  obtain ⟨A', n', c', rfl, _⟩ := id hu
  exact ⟨(A', n', c'), hu, b, o, hA, hc⟩
 refine ⟨fun i => if h : i < n then Classical.choose (each i h) else (none, 0, 0), fun i => ?_, fun i hi => ?_⟩
 ·by_cases hi : i < n
  ·simp only [hi, dif_pos]
   exact (Classical.choose_spec (each i hi)).1
  ·simp only [hi, dif_neg, not_false_eq_true]
   rw [List.getD_eq_getElem?_getD, List.getElem?_eq_none (by omega)]
   exact ByT.nil _ _
 ·simp only [hi, dif_pos]
  exact (Classical.choose_spec (each i hi)).2
abbrev cE (e : Ent) (u : Value) : Array Value := #[.int .i64 e.rcd.kind, .int .i64 e.rcd.key, .int .i64 e.rcd.ver, u, .int .i64 e.pair]
end Go.Proofs.YtdmnmfnmaccmoaaGreatDoor
/- Walks: the closed fact of chapter 5. -/
namespace Go.Proofs.YtdmnmfnmaccmoaaGreatDoor
open Go Go.RowKit
end Go.Proofs.YtdmnmfnmaccmoaaGreatDoor
/- The statement IndexBack: the walk of the law. -/
namespace Go.Proofs.YtdmnmfnmaccmoaaGreatDoor
open Go Go.RowKit
theorem filter_len (p : Int → Bool) : ∀ l : List Int, l.length = (l.filter p).length + (l.filter fun x => !p x).length
 | [] => rfl
 | x :: l => by
  have := filter_len p l
  cases h : p x <;> simp [h] <;> omega
theorem nodup_len : ∀ (n : Nat) (l : List Int), l.Pairwise (· ≠ ·) → (∀ x ∈ l, 0 ≤ x ∧ x < n) → l.length ≤ n
 | 0, l, _, h => by
  cases l with
  | nil => simp
  | cons x l => have := h x (by simp); omega
 | n + 1, l, hp, h => by
  have h1 := nodup_len n (l.filter fun x => !decide (x = (n : Int))) (hp.filter _) (fun x hx => by
   rw [List.mem_filter] at hx
   have := h x hx.1
   have h2 : x ≠ n := by simpa using hx.2
   omega)
  have h2 : (l.filter fun x => decide (x = (n : Int))).length ≤ 1 := by
   have hp2 := hp.filter (fun x => decide (x = (n : Int)))
   have ha : ∀ x ∈ l.filter (fun x => decide (x = (n : Int))), x = n := fun x hx => by simpa using (List.mem_filter.1 hx).2
   generalize l.filter (fun x => decide (x = (n : Int))) = m at hp2 ha
   match m, hp2, ha with
   | [], _, _ => simp
   | [x], _, _ => simp
   | x :: y :: r, hp2, ha => exact absurd ((ha x (by simp)).trans (ha y (by simp)).symm) ((List.pairwise_cons.1 hp2).1 y (by simp))
  have h3 : l.length = (l.filter fun x => decide (x = (n : Int))).length + (l.filter fun x => !decide (x = (n : Int))).length := by
   exact filter_len _ l
  omega
theorem right_len {l : List Ent} (h : iRight l) : l.length ≤ 1001 := by
 have h1 := nodup_len 1001 (l.map (·.pair)) (by rw [List.pairwise_map]; exact h.2.2) (fun x hx => by
  obtain ⟨e, he, rfl⟩ := List.mem_map.1 hx
  have := (eOne_iff e).1 (h.1 e he)
  omega)
 simpa using h1
theorem right_small {l : List Ent} (h : iRight l) : ∀ e ∈ l, e.rcd.data.length ≤ 4096 := fun e he => by
 have := (rWrong_zero' ((eOne_iff e).1 (h.1 e he)).1).1
 omega
end Go.Proofs.YtdmnmfnmaccmoaaGreatDoor
/- Plain: right disks and stores are small enough for the walks. -/
namespace Go.Proofs.YtdmnmfnmaccmoaaGreatDoor
open Go Go.RowKit
theorem good_fine {x : Dsk} (h : dGood x) : Fine x 0 := by
 refine ⟨⟨by rw [h.len]; omega, by rw [h.late]; simp, fun i => ?_, fun i => by rw [h.late]; simp⟩, h.lateIn, by rw [h.late]; simp⟩
 rcases Nat.lt_or_ge i 12 with hi | hi
 ·rw [h.blk i hi]; omega
 ·rw [List.getD_eq_getElem?_getD, List.getElem?_eq_none (by rw [h.len]; exact hi)]
  simp
structure StoF (s : Sto) : Prop where
 disk : Fine s.disk 40
 len : s.index.length ≤ 4096
 small : ∀ e ∈ s.index, e.rcd.data.length ≤ 4096
theorem sGood.fine {s : Sto} (g : sGood s) : StoF s := ⟨(good_fine g.disk).le (by omega), by have := right_len g.right; omega, right_small g.right⟩
theorem tDS : tD ⊆ tS := by
 intro a h
 simp only [List.mem_cons, List.not_mem_nil, or_false] at h ⊢
 rcases h with h | h <;> simp [h]
theorem StoV.mk {T : List TypeId} {w : World} {base : Nat} {x y z : Value} {i : Int} {s : Sto} (hd : DskV T w base (.agg #[x, y]) s.disk) (hi : Row eEnt T w base z s.index) (hn : s.next = i) : StoV T w base (.agg #[x, y, z, .int .i64 i]) s := by
 obtain ⟨b, l, e, hb, hl⟩ := hd
 simp only [Value.agg.injEq, Array.mk.injEq, List.cons.injEq, and_true] at e
 obtain ⟨rfl, rfl⟩ := e
 exact ⟨_, _, _, by rw [hn], hb, hl, hi⟩
end Go.Proofs.YtdmnmfnmaccmoaaGreatDoor
