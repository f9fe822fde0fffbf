/- Texts laid together: words, plain laws and walks of the program's functions (A5). -/
import Derived.RangeFuncNested
import Derived.RangeFuncBound
import Derived.RangeFuncCalls
import Derived.RangeFuncLeaves
import Derived.RangeFuncBox
import Derived.Shelf.Abstract
import Derived.Shelf.RegionOpen
import Derived.WalkKit
import Derived.OwnWalkIn
import Derived.TacticsInMore
import Derived.LoopNIn
import Derived.LoopIn
import Derived.Test.YtmcgbdbhpnplmaaGreatIx7
import Derived.Test.YtmcgbdbhpnplmaaGreatA4
import Derived.Test.YtmcgbdbhpnplmaaGreatIx5
import Derived.Test.YtmcgbdbhpnplmaaGreatIx6
import Derived.Test.YtmcgbdbhpnplmaaGreatIxA
import Derived.Deep.Cut
import Derived.Deep.CutRange
/- Walks: slices.Backward of entries, ranged over; index.Last. -/
namespace Go.Proofs.YtmcgbdbhpnplmaaGreat
open Go Go.RowKit Go.Shelf
attribute [local go_sem] Oper.semAt_some

abbrev entV (e : Ent) (q : Option Addr × Nat × Nat) : Value := .agg #[.int .i64 e.rcd.kind, .int .i64 e.rcd.key, .int .i64 e.rcd.ver, .slice q.1 q.2.1 q.2.2, .int .i64 e.pair]
/-- The entries of a row, each with its data's slice. -/
structure Elems (w : World) (base : Nat) (A : Option Addr) (n : Nat) (en : Nat → Ent) (q : Nat → Option Addr × Nat × Nat) : Prop where
 data : ∀ i, ByT w base (.slice (q i).1 (q i).2.1 (q i).2.2) (en i).rcd.data
 cells : ∀ i, i < n → ∃ b o, A = some ⟨b, o, none⟩ ∧ ∀ w', Ext w w' → w'.cell? ⟨b, o + i * 5, none⟩ = some (.int .i64 (en i).rcd.kind) ∧ w'.cell? ⟨b, o + i * 5 + 1, none⟩ = some (.int .i64 (en i).rcd.key) ∧
  w'.cell? ⟨b, o + i * 5 + 2, none⟩ = some (.int .i64 (en i).rcd.ver) ∧ w'.cell? ⟨b, o + i * 5 + 3, none⟩ = some (.slice (q i).1 (q i).2.1 (q i).2.2) ∧ w'.cell? ⟨b, o + i * 5 + 4, none⟩ = some (.int .i64 (en i).pair)
theorem Row.elems {T : List TypeId} {w : World} {base n c : Nat} {A : Option Addr} {l : List Ent} (h : Row eEnt T w base (.slice A n c) l) (hn : n = l.length) : ∃ q, Elems w base A n (fun i => l.getD i ⟨rZero, 0⟩) q := by
 have each : ∀ i, i < n → ∃ q : Option Addr × Nat × Nat, ByT w base (.slice q.1 q.2.1 q.2.2) (l.getD i ⟨rZero, 0⟩).rcd.data ∧ ∃ b o, A = some ⟨b, o, none⟩ ∧ ∀ w', Ext w w' → w'.cell? ⟨b, o + i * 5, none⟩ = some (.int .i64 (l.getD i ⟨rZero, 0⟩).rcd.kind) ∧ w'.cell? ⟨b, o + i * 5 + 1, none⟩ = some (.int .i64 (l.getD i ⟨rZero, 0⟩).rcd.key) ∧
  w'.cell? ⟨b, o + i * 5 + 2, none⟩ = some (.int .i64 (l.getD i ⟨rZero, 0⟩).rcd.ver) ∧ w'.cell? ⟨b, o + i * 5 + 3, none⟩ = some (.slice q.1 q.2.1 q.2.2) ∧ w'.cell? ⟨b, o + i * 5 + 4, none⟩ = some (.int .i64 (l.getD i ⟨rZero, 0⟩).pair) := by
  intro i hi
  obtain ⟨b, o, u, hA, _, hu, hc⟩ := h.ent_x hi
  obtain ⟨A', n', c', rfl, _⟩ := id hu
  exact ⟨(A', n', c'), hu, b, o, hA, hc⟩
 refine ⟨fun i => if h : i < n then Classical.choose (each i h) else (none, 0, 0), fun i => ?_, fun i hi => ?_⟩
 ·by_cases hi : i < n
  ·simp only [hi, dif_pos]
   exact (Classical.choose_spec (each i hi)).1
  ·simp only [hi, dif_neg, not_false_eq_true]
   rw [List.getD_eq_getElem?_getD, List.getElem?_eq_none (by omega)]
   exact ByT.nil _ _
 ·simp only [hi, dif_pos]
  exact (Classical.choose_spec (each i hi)).2

/-- What has come when k rounds are over: the last ones, the last one first. -/
def downto (n k : Nat) : List Nat := (List.range k).map fun j => n - 1 - j
theorem downto_succ (n k : Nat) : downto n (k + 1) = downto n k ++ [n - 1 - k] := by simp [downto, List.range_succ]
theorem downto_length (n k : Nat) : (downto n k).length = k := by simp [downto]

/-- A box of the call's own speaks of cells alone. -/
theorem box_own {β : Type} (B : Nat) (t : TypeId) (f : β → Array Value) : Own (fun s W => Box W B t (f s)) := fun _ X _ _ hs hg hrow =>
 (hg.block B hs.lt (fun e' => by obtain ⟨o, ho, hc⟩ := hrow B e'.symm; rw [show X.heap[B]? = _ from hs] at ho; cases ho; cases hc)).trans hs
theorem byt_own {β : Type} (f : β → Value) (d : β → List UInt8) : Own (fun s W => ByT W 0 (f s) (d s)) := fun _ X _ _ hs hg hrow =>
 hs.kept (T := []) (Kept.grown hg fun g e => ⟨Nat.zero_le _, fun cur t _ h => by obtain ⟨o, ho, hc⟩ := hrow g e; rw [h] at ho; cases ho; cases hc⟩)

abbrev zE : Array Value := #[.int .i64 0, .int .i64 0, .int .i64 0, .slice none 0 0, .int .i64 0]
abbrev cE (e : Ent) (u : Value) : Array Value := #[.int .i64 e.rcd.kind, .int .i64 e.rcd.key, .int .i64 e.rcd.ver, u, .int .i64 e.pair]
theorem iLast_none {l : List Ent} {k : Int} (h : ∀ i, i < l.length → (l.getD i ⟨rZero, 0⟩).rcd.key ≠ k) : iLast l k = none := by
 unfold iLast
 rw [List.find?_eq_none]
 intro x hx
 obtain ⟨i, hi, rfl⟩ := List.getElem_of_mem (List.mem_reverse.1 hx)
 have := h i hi
 rw [List.getD_eq_getElem?_getD, List.getElem?_eq_getElem hi] at this
 simpa using this
theorem iLast_some {l : List Ent} {k : Int} {i : Nat} (hi : i < l.length) (h : (l.getD i ⟨rZero, 0⟩).rcd.key = k) (h1 : ∀ j, i < j → j < l.length → (l.getD j ⟨rZero, 0⟩).rcd.key ≠ k) : iLast l k = some (l.getD i ⟨rZero, 0⟩) := by
 unfold iLast
 have e : l.reverse = (l.drop (i + 1)).reverse ++ (l.getD i ⟨rZero, 0⟩ :: (l.take i).reverse) := by
  conv => lhs; rw [← List.take_append_drop i l, drop_ent hi]
  simp
 rw [e, List.find?_append]
 have h0 : (l.drop (i + 1)).reverse.find? (fun e => decide (e.rcd.key = k)) = none := by
  rw [List.find?_eq_none]
  intro x hx
  obtain ⟨j, hj, rfl⟩ := List.getElem_of_mem (List.mem_reverse.1 hx)
  rw [List.length_drop] at hj
  have := h1 (i + 1 + j) (by omega) (by omega)
  rw [List.getD_eq_getElem?_getD, List.getElem?_eq_getElem (by omega)] at this
  simpa [List.getElem_drop] using this
 rw [h0, List.find?_cons_of_pos (by simpa using h)]
 rfl
end Go.Proofs.YtmcgbdbhpnplmaaGreat

/- Walks: the closed fact of chapter 5. -/
namespace Go.Proofs.YtmcgbdbhpnplmaaGreat
open Go Go.RowKit

def q2D : Dsk := (pPut dFree 2 qR).1
theorem q2In : pIn dFree 2 := by unfold pIn dFree; decide
theorem q2E : (pPut dFree 2 qR).2 = 0 := by rw [pPut_ok q2In qW]
theorem q2F : Fine q2D 2 := free_fine.put (by omega) 2 qR
def eA : Ent := ⟨qR, 2⟩
def eB : Ent := ⟨⟨3, 7, 4, []⟩, 0⟩
theorem q2S : iScan q2D = [eA] := by decide +kernel
theorem ins2 {l' : List Ent} (h : l'.Perm ([eA] ++ [eB])) (hs : l'.Pairwise fun a b => ¬ eLt b a) : l' = [eA, eB] := by
 have hp : ∀ x ∈ [eA], x.pair ≠ eB.pair := by decide
 have hl : [eA].Pairwise eLt := List.pairwise_singleton _ _
 have h1 : ([eA] ++ [eB]).Pairwise fun a b => a.pair ≠ b.pair := by decide
 rw [ins_unique h hl hp (sorted_strict hs (perm_pairs h h1))]
 decide
theorem small2 : ∀ e ∈ [eA, eB], e.rcd.data.length ≤ 4096 := by decide

end Go.Proofs.YtmcgbdbhpnplmaaGreat

/- The statement IndexBack: the walk of the law. -/
namespace Go.Proofs.YtmcgbdbhpnplmaaGreat
open Go Go.RowKit

/-- A row of one entry, just laid. -/
theorem row_one {w : World} {base : Nat} {e : Ent} {u : Value} (h : ByT w base u e.rcd.data) : Row eEnt [54] (w.alloc (.cells (cE e u) 54)) base (.slice (some ⟨w.heap.size, 0, none⟩) 1 1) [e] := by
 refine OwnRow.row (rb := w.heap.size) (base := base) (OwnRow.shut5 (Nat.le_refl _) (Box.new w _ _ rfl) rfl (Nat.le_refl _) (by unfold maxLen; omega) rfl (fun i hi => ?_)) (by decide) (Nat.le_refl _)
 obtain rfl : i = 0 := by omega
 exact ⟨u, rfl, rfl, rfl, rfl, rfl, h.ext (ext_alloc _ _)⟩
theorem filter_len (p : Int → Bool) : ∀ l : List Int, l.length = (l.filter p).length + (l.filter fun x => !p x).length
 | [] => rfl
 | x :: l => by
  have := filter_len p l
  cases h : p x <;> simp [h] <;> omega
theorem nodup_len : ∀ (n : Nat) (l : List Int), l.Pairwise (· ≠ ·) → (∀ x ∈ l, 0 ≤ x ∧ x < n) → l.length ≤ n
 | 0, l, _, h => by
  cases l with
  | nil => simp
  | cons x l => have := h x (by simp); omega
 | n + 1, l, hp, h => by
  have h1 := nodup_len n (l.filter fun x => !decide (x = (n : Int))) (hp.filter _) (fun x hx => by
   rw [List.mem_filter] at hx
   have := h x hx.1
   have h2 : x ≠ n := by simpa using hx.2
   omega)
  have h2 : (l.filter fun x => decide (x = (n : Int))).length ≤ 1 := by
   have hp2 := hp.filter (fun x => decide (x = (n : Int)))
   have ha : ∀ x ∈ l.filter (fun x => decide (x = (n : Int))), x = n := fun x hx => by simpa using (List.mem_filter.1 hx).2
   generalize l.filter (fun x => decide (x = (n : Int))) = m at hp2 ha
   match m, hp2, ha with
   | [], _, _ => simp
   | [x], _, _ => simp
   | x :: y :: r, hp2, ha => exact absurd ((ha x (by simp)).trans (ha y (by simp)).symm) ((List.pairwise_cons.1 hp2).1 y (by simp))
  have h3 : l.length = (l.filter fun x => decide (x = (n : Int))).length + (l.filter fun x => !decide (x = (n : Int))).length := by
   exact filter_len _ l
  omega
theorem right_len {l : List Ent} (h : iRight l) : l.length ≤ 1001 := by
 have h1 := nodup_len 1001 (l.map (·.pair)) (by rw [List.pairwise_map]; exact h.2.2) (fun x hx => by
  obtain ⟨e, he, rfl⟩ := List.mem_map.1 hx
  have := (eOne_iff e).1 (h.1 e he)
  omega)
 simpa using h1
theorem right_small {l : List Ent} (h : iRight l) : ∀ e ∈ l, e.rcd.data.length ≤ 4096 := fun e he => by
 have := (rWrong_zero' ((eOne_iff e).1 (h.1 e he)).1).1
 omega
theorem right_single (e : Ent) : iRight [e] ↔ eOne e = true := ⟨fun h => h.1 e (by simp), fun h => ⟨by simpa using h, List.pairwise_singleton _ _, List.pairwise_singleton _ _⟩⟩
theorem esSame_id (l : List Ent) : esSame l l = true := by simp [esSame]

end Go.Proofs.YtmcgbdbhpnplmaaGreat

/- Plain: right disks and stores are small enough for the walks. -/
namespace Go.Proofs.YtmcgbdbhpnplmaaGreat
open Go Go.RowKit

theorem good_fine {x : Dsk} (h : dGood x) : Fine x 0 := by
 refine ⟨⟨by rw [h.len]; omega, by rw [h.late]; simp, fun i => ?_, fun i => by rw [h.late]; simp⟩, h.lateIn, by rw [h.late]; simp⟩
 rcases Nat.lt_or_ge i 12 with hi | hi
 ·rw [h.blk i hi]; omega
 ·rw [List.getD_eq_getElem?_getD, List.getElem?_eq_none (by rw [h.len]; exact hi)]
  simp
theorem good_right {x : Dsk} (h : dGood x) : dRight x = true := by
 have ha : x.blocks.all (fun b => decide (b.length = 16)) = true := by
  rw [List.all_eq_true]
  intro b hb
  obtain ⟨j, hj, e⟩ := List.getElem_of_mem hb
  have := h.blk j (by rw [← h.len]; exact hj)
  rw [List.getD_eq_getElem?_getD, List.getElem?_eq_getElem hj, Option.getD_some, e] at this
  simpa using this
 unfold dRight
 rw [ha, h.len, h.late]
 rfl
/-- A store that is small enough for the walks. -/
structure StoF (s : Sto) : Prop where
 disk : Fine s.disk 40
 len : s.index.length ≤ 4096
 small : ∀ e ∈ s.index, e.rcd.data.length ≤ 4096
theorem sGood.fine {s : Sto} (g : sGood s) : StoF s := ⟨(good_fine g.disk).le (by omega), by have := right_len g.right; omega, right_small g.right⟩
theorem tDS : tD ⊆ tS := by
 intro a h
 simp only [List.mem_cons, List.not_mem_nil, or_false] at h ⊢
 rcases h with h | h <;> simp [h]
theorem StoV.mk {T : List TypeId} {w : World} {base : Nat} {x y z : Value} {i : Int} {s : Sto} (hd : DskV T w base (.agg #[x, y]) s.disk) (hi : Row eEnt T w base z s.index) (hn : s.next = i) : StoV T w base (.agg #[x, y, z, .int .i64 i]) s := by
 obtain ⟨b, l, e, hb, hl⟩ := hd
 simp only [Value.agg.injEq, Array.mk.injEq, List.cons.injEq, and_true] at e
 obtain ⟨rfl, rfl⟩ := e
 exact ⟨_, _, _, by rw [hn], hb, hl, hi⟩
end Go.Proofs.YtmcgbdbhpnplmaaGreat

