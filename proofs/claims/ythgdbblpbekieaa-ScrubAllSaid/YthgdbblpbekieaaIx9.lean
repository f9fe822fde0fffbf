/- Walks: slices.DeleteFunc of entries; index.Drop. -/
import Derived.Test.YthgdbblpbekieaaIx8
namespace Go.Proofs.Ythgdbblpbekieaa
open Go Go.RowKit

/-- An entry's cells. -/
def CellsAt (w : World) (base : Nat) (cur : Array Value) (i : Nat) (e : Ent) : Prop :=
 ∃ u, cur[i * 5]? = some (.int .i64 e.rcd.kind) ∧ cur[i * 5 + 1]? = some (.int .i64 e.rcd.key) ∧ cur[i * 5 + 2]? = some (.int .i64 e.rcd.ver) ∧ cur[i * 5 + 3]? = some u ∧ cur[i * 5 + 4]? = some (.int .i64 e.pair) ∧ ByT w base u e.rcd.data
theorem OwnRow.open5 {w : World} {rb base n c : Nat} {A : Option Addr} {xs : List Ent} (h : OwnRow eEnt w rb base (.slice A n c) xs) (hn : 0 < n) :
  ∃ g cur, A = some ⟨g, 0, none⟩ ∧ rb ≤ g ∧ Box w g 74 cur ∧ cur.size = c * 5 ∧ n ≤ c ∧ c ≤ maxLen ∧ n = xs.length ∧ ∀ i, i < n → CellsAt w base cur i (xs.getD i ⟨rZero, 0⟩) := by
 obtain ⟨css, hc, hl, h⟩ := h
 rcases h with ⟨e1, e2⟩ | ⟨g, cap, cur, hv, hg, hh, hnc, hm, hs, ht⟩
 ·injection e1 with _ h2 _
  omega
 ·injection hv with h1 h2 h3
  subst h1 h2 h3
  refine ⟨g, cur, rfl, hg, hh, hs, hnc, hm, rfl, fun i hi => ?_⟩
  obtain ⟨u, hu, hb⟩ := hc.2 i hi
  have hget : ∀ j v, j < 5 → (css.getD i [])[j]? = some v → cur[i * 5 + j]? = some v := by
   intro j v hj hv
   have h1 := flat_at css hc.each i j (by have := hc.1; omega) hj
   rw [hv, ← ht] at h1
   have h2 : i * eEnt.size + j < xs.length * eEnt.size := by show i * 5 + j < xs.length * 5; omega
   rw [List.getElem?_take, if_pos h2] at h1
   exact (by simpa using h1 : cur[i * eEnt.size + j]? = some v)
  refine ⟨u, hget 0 _ (by omega) (by rw [hu]; rfl), hget 1 _ (by omega) (by rw [hu]; rfl), hget 2 _ (by omega) (by rw [hu]; rfl), hget 3 _ (by omega) (by rw [hu]; rfl), hget 4 _ (by omega) (by rw [hu]; rfl), hb⟩
theorem OwnRow.shut5 {w : World} {rb base n c g : Nat} {cur : Array Value} {xs : List Ent} (hg : rb ≤ g) (hb : Box w g 74 cur) (hs : cur.size = c * 5) (hnc : n ≤ c) (hm : c ≤ maxLen) (hn : n = xs.length) (h : ∀ i, i < n → CellsAt w base cur i (xs.getD i ⟨rZero, 0⟩)) :
  OwnRow eEnt w rb base (.slice (some ⟨g, 0, none⟩) n c) xs := by
 have hget : ∀ j, j < n * 5 → cur[j]? = some (cur.getD j (.bool false)) := fun j hj => by
  rw [Array.getElem?_eq_getElem (by omega)]
  simp [Array.getD, show j < cur.size by omega]
 obtain ⟨css, hcss⟩ : ∃ css : List (List Value), css = (List.range n).map fun i => [cur.getD (i * 5) (.bool false), cur.getD (i * 5 + 1) (.bool false), cur.getD (i * 5 + 2) (.bool false), cur.getD (i * 5 + 3) (.bool false), cur.getD (i * 5 + 4) (.bool false)] := ⟨_, rfl⟩
 have hcl : css.length = n := by rw [hcss]; simp
 have hci : ∀ i, i < n → css.getD i [] = [cur.getD (i * 5) (.bool false), cur.getD (i * 5 + 1) (.bool false), cur.getD (i * 5 + 2) (.bool false), cur.getD (i * 5 + 3) (.bool false), cur.getD (i * 5 + 4) (.bool false)] := fun i hi => by
  rw [hcss, List.getD_eq_getElem?_getD, List.getElem?_map, List.getElem?_range hi]
  rfl
 have each : ∀ cs ∈ css, cs.length = 5 := fun cs hcs => by
  rw [hcss] at hcs
  obtain ⟨i, _, rfl⟩ := List.mem_map.1 hcs
  rfl
 have hgd : ∀ j v, cur[j]? = some v → cur.getD j (.bool false) = v := fun j v h => by
  have hj := (Array.getElem?_eq_some_iff.1 h).1
  rw [Array.getElem?_eq_getElem hj] at h
  injection h with h
  simp [Array.getD, hj, h]
 have hfl : css.flatten.length = n * 5 := by rw [flat_len css each, hcl]
 refine ⟨css, ⟨by rw [hcl, hn], fun i hi => ?_⟩, by rw [hfl, hn]; rfl, .inr ⟨g, c, cur, by rw [hn], hg, hb, by omega, hm, hs, ?_⟩⟩
 ·obtain ⟨u, c0, c1, c2, c3, c4, hu⟩ := h i (by omega)
  refine ⟨u, ?_, hu⟩
  rw [hci i (by omega), hgd _ _ c0, hgd _ _ c1, hgd _ _ c2, hgd _ _ c3, hgd _ _ c4]
  rfl
 ·show cur.toList.take (xs.length * 5) = css.flatten
  rw [← hn]
  apply List.ext_getElem?
  intro j
  by_cases hj : j < n * 5
  ·obtain ⟨i, r, hr, rfl⟩ : ∃ i r, r < 5 ∧ j = i * 5 + r := ⟨j / 5, j % 5, Nat.mod_lt _ (by omega), by omega⟩
   have hd : i < n := by omega
   rw [List.getElem?_take, if_pos hj, Array.getElem?_toList, hget _ hj, flat_at css each _ _ (by omega) hr, hci _ hd]
   rcases (show r = 0 ∨ r = 1 ∨ r = 2 ∨ r = 3 ∨ r = 4 by omega) with rfl | rfl | rfl | rfl | rfl <;> rfl
  ·rw [List.getElem?_eq_none (by rw [List.length_take]; omega), List.getElem?_eq_none (by omega)]
theorem CellsAt.kept {w w' : World} {base : Nat} {cur : Array Value} {i : Nat} {e : Ent} (h : CellsAt w base cur i e) (k : Kept [] base w w') : CellsAt w' base cur i e := by
 obtain ⟨u, c0, c1, c2, c3, c4, hu⟩ := h
 exact ⟨u, c0, c1, c2, c3, c4, hu.kept k⟩
/-- Cells of one element stored anew. -/
def put5 (cur : Array Value) (i : Nat) (a b c d e : Value) : Array Value := ((((cur.setIfInBounds (i * 5) a).setIfInBounds (i * 5 + 1) b).setIfInBounds (i * 5 + 2) c).setIfInBounds (i * 5 + 3) d).setIfInBounds (i * 5 + 4) e
theorem put5_size (cur : Array Value) (i : Nat) (a b c d e : Value) : (put5 cur i a b c d e).size = cur.size := by simp [put5]
theorem CellsAt.put_same {w : World} {base : Nat} {cur : Array Value} {i : Nat} {x : Ent} {u : Value} (hu : ByT w base u x.rcd.data) (hi : i * 5 + 5 ≤ cur.size) : CellsAt w base (put5 cur i (.int .i64 x.rcd.kind) (.int .i64 x.rcd.key) (.int .i64 x.rcd.ver) u (.int .i64 x.pair)) i x := by
 refine ⟨u, ?_, ?_, ?_, ?_, ?_, hu⟩ <;> simp [put5, Array.getElem?_setIfInBounds] <;> omega
theorem CellsAt.put_other {w : World} {base : Nat} {cur : Array Value} {i j : Nat} {x : Ent} {a b c d e : Value} (h : CellsAt w base cur j x) (hij : i ≠ j) : CellsAt w base (put5 cur i a b c d e) j x := by
 obtain ⟨u, c0, c1, c2, c3, c4, hu⟩ := h
 have hne : ∀ p q, p < 5 → q < 5 → i * 5 + p ≠ j * 5 + q := fun p q hp hq => by omega
 refine ⟨u, ?_, ?_, ?_, ?_, ?_, hu⟩ <;> unfold put5
 ·rw [Array.getElem?_setIfInBounds_ne (by omega), Array.getElem?_setIfInBounds_ne (by omega), Array.getElem?_setIfInBounds_ne (by omega), Array.getElem?_setIfInBounds_ne (by omega), Array.getElem?_setIfInBounds_ne (by omega)]; exact c0
 ·rw [Array.getElem?_setIfInBounds_ne (by omega), Array.getElem?_setIfInBounds_ne (by omega), Array.getElem?_setIfInBounds_ne (by omega), Array.getElem?_setIfInBounds_ne (by omega), Array.getElem?_setIfInBounds_ne (by omega)]; exact c1
 ·rw [Array.getElem?_setIfInBounds_ne (by omega), Array.getElem?_setIfInBounds_ne (by omega), Array.getElem?_setIfInBounds_ne (by omega), Array.getElem?_setIfInBounds_ne (by omega), Array.getElem?_setIfInBounds_ne (by omega)]; exact c2
 ·rw [Array.getElem?_setIfInBounds_ne (by omega), Array.getElem?_setIfInBounds_ne (by omega), Array.getElem?_setIfInBounds_ne (by omega), Array.getElem?_setIfInBounds_ne (by omega), Array.getElem?_setIfInBounds_ne (by omega)]; exact c3
 ·rw [Array.getElem?_setIfInBounds_ne (by omega), Array.getElem?_setIfInBounds_ne (by omega), Array.getElem?_setIfInBounds_ne (by omega), Array.getElem?_setIfInBounds_ne (by omega), Array.getElem?_setIfInBounds_ne (by omega)]; exact c4
theorem putAt_cells {w : World} {base o : Nat} {cur : Array Value} {vs : List Value} {j : Nat} {x : Ent} (h : CellsAt w base cur j x) (hj : j * 5 + 5 ≤ o) (hs : o + vs.length ≤ cur.size) : CellsAt w base (putAt cur o vs) j x := by
 obtain ⟨u, c0, c1, c2, c3, c4, hu⟩ := h
 refine ⟨u, ?_, ?_, ?_, ?_, ?_, hu⟩
 ·rw [putAt_get _ _ _ _ hs, if_neg (by omega)]; exact c0
 ·rw [putAt_get _ _ _ _ hs, if_neg (by omega)]; exact c1
 ·rw [putAt_get _ _ _ _ hs, if_neg (by omega)]; exact c2
 ·rw [putAt_get _ _ _ _ hs, if_neg (by omega)]; exact c3
 ·rw [putAt_get _ _ _ _ hs, if_neg (by omega)]; exact c4

def zEnt (n : Nat) : List Value := (Builtin.zeroCells (Value.agg #[.int .i64 0, .int .i64 0, .int .i64 0, .slice none 0 0, .int .i64 0]).cells n).toList
theorem zEnt_len (n : Nat) : (zEnt n).length = n * 5 := by
 unfold zEnt Builtin.zeroCells
 simp [Value.cells]
theorem zEnt_one (n : Nat) : ∀ v ∈ zEnt n, v.oneCell' = true := by
 intro v hv
 unfold zEnt Builtin.zeroCells at hv
 simp only [Array.toList_map, List.mem_map] at hv
 obtain ⟨i, _, rfl⟩ := hv
 have hlt : i % 5 < 5 := Nat.mod_lt _ (by omega)
 have h5 : i % 5 = 0 ∨ i % 5 = 1 ∨ i % 5 = 2 ∨ i % 5 = 3 ∨ i % 5 = 4 := by omega
 simp only [Value.cells, List.size_toArray, List.length_cons, List.length_nil, Nat.reduceAdd]
 rcases h5 with h | h | h | h | h <;> rw [h] <;> rfl
theorem run_clear_ent (w : World) (ty : TypeId) (b o n c : Nat) (hn : 0 < n) (hc : ∀ j, j < n * 5 → (w.cell? ⟨b, o + j, none⟩).isSome = true) (hf : ∀ j, j < n * 5 → w.frozen? ⟨b, o + j, none⟩ = false) :
  (Builtin.clear_ #[72] ty #[.slice (some ⟨b, o, none⟩) n c]).run Try.prog w = .ok (.tuple #[]) (w.setCells b o (zEnt n)) := by
 have hv : ∀ w, (zeroValue 74).run Try.prog w = .ok (.agg #[.int .i64 0, .int .i64 0, .int .i64 0, .slice none 0 0, .int .i64 0]) w := fun w => by kernel_rfl
 have hst := run_storeCells_cells (P := Try.prog) b o (zEnt n) 0 w (by simpa [zEnt_len] using hc) (by simpa [zEnt_len] using hf) (zEnt_one n)
 simp only [Nat.add_zero] at hst
 obtain ⟨m, rfl⟩ : ∃ m, n = m + 1 := ⟨n - 1, by omega⟩
 unfold zEnt at hst ⊢
 simp [Builtin.clear_, run_underlying Try.underlying72, hv, hst]
end Go.Proofs.Ythgdbblpbekieaa

