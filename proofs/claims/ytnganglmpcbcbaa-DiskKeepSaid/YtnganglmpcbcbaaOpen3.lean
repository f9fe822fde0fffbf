/- An argument's reading, opened: rows, disks. -/
import Derived.Test.YtnganglmpcbcbaaOpen2
import Derived.Test.YtnganglmpcbcbaaKit3
namespace Go.Proofs.Ytnganglmpcbcbaa
open Go Go.RowKit Go.ChangeShapes Go.WideShapes Go.ChangeAt

section
variable {H : Type} {enc : TypeId × Value → H} {w : World} {base : Nat} {spare : Nat → Bool} {held : Bool}
theorem in_row {α : Type} (E : El α) {T : List TypeId} {t : TypeId} (ht : Try.prog.underlying t = some (.slice E.ty)) (hce : Try.prog.cellsOf E.ty = E.size) (Q : α → Prop)
    (hop : ∀ n cs y, DataW.trod enc Try.prog w base spare held n E.ty cs = some y → Fits Try.prog E.ty y.1 → ∃ x, E.R (ByT w w.heap.size) cs x ∧ Q x)
    {fuel : Nat} {cs : List Value} {x : DataW H × List MemPlace} (h : DataW.trod enc Try.prog w base spare held fuel t cs = some x) (hf : Fits Try.prog t x.1) :
    ∃ v xs, cs = [v] ∧ Row E T w w.heap.size v xs ∧ ∀ y ∈ xs, Q y := by
  rcases DataW.trod_slice ht h with ⟨rfl, _⟩ | ⟨a, len, cap, elems, rest, n, _, rfl, rfl, _, hl, hm, hel, hi, _, _⟩
  · exact ⟨_, [], rfl, Row.nil _ _ _ _, by simp⟩
  · have each : ∀ i, i < len → ∃ q : List Value × α, E.R (ByT w w.heap.size) q.1 q.2 ∧ Q q.2 ∧ ∀ r u, q.1[r]? = some u → w.cell? (a.add (i * E.size + r)) = some u := by
      intro i hi'
      have h1 := hi i hi'
      rw [List.getElem?_eq_getElem (by omega), Option.bind_eq_some_iff] at h1
      obtain ⟨cs', h2, h3⟩ := h1
      obtain ⟨z, hz1, hz2⟩ := hop _ _ _ h3 (fits_elem hf ht (i := i) (by rw [List.getElem?_map, List.getElem?_eq_getElem (by omega)]; rfl))
      rw [hce] at h2
      obtain ⟨_, hlen, hcell⟩ := World.cells?_some h2
      refine ⟨(cs', z), hz1, hz2, fun r u hu => ?_⟩
      have hr : r < E.size := by
        rcases Nat.lt_or_ge r cs'.length with h | h
        · omega
        · rw [List.getElem?_eq_none h] at hu; cases hu
      have := hcell r hr
      rw [add_of_add] at this
      rw [this, hu]
    have hq : ∃ q : Nat → List Value × α, ∀ i, i < len → E.R (ByT w w.heap.size) (q i).1 (q i).2 ∧ Q (q i).2 ∧ ∀ r u, (q i).1[r]? = some u → w.cell? (a.add (i * E.size + r)) = some u :=
      ⟨fun i => if h : i < len then Classical.choose (each i h) else ([], E.d), fun i h => by simp only [h, dif_pos]; exact Classical.choose_spec (each i h)⟩
    obtain ⟨q, hq⟩ := hq
    have hcs : Cs E (ByT w w.heap.size) ((List.range len).map fun i => (q i).1) ((List.range len).map fun i => (q i).2) := by
      refine ⟨by simp, fun i hi' => ?_⟩
      simp only [List.length_map, List.length_range] at hi'
      have := (hq i hi').1
      simpa [List.getD_eq_getElem?_getD, List.getElem?_map, List.getElem?_range hi'] using this
    have hpos := E.pos
    have hflat := hcs.flat
    have hlen : ((List.range len).map fun i => (q i).2).length = len := by simp
    rw [hlen] at hflat
    have hcell : ∀ j u, ((List.range len).map fun i => (q i).1).flatten[j]? = some u → w.cell? (a.add j) = some u := by
      intro j u hu
      have hj : j < len * E.size := by
        rcases Nat.lt_or_ge j (((List.range len).map fun i => (q i).1).flatten).length with h | h
        · omega
        · rw [List.getElem?_eq_none h] at hu; cases hu
      have hdiv : j / E.size < len := Nat.div_lt_of_lt_mul (by rw [Nat.mul_comm]; exact hj)
      have hmod := Nat.mod_lt j hpos
      have e : j = j / E.size * E.size + j % E.size := by rw [Nat.mul_comm]; exact (Nat.div_add_mod j E.size).symm
      rw [e, flat_at _ hcs.each _ _ (by simpa using hdiv) hmod] at hu
      rw [e]
      refine (hq _ hdiv).2.2 _ u ?_
      simpa [List.getD_eq_getElem?_getD, List.getElem?_map, List.getElem?_range hdiv] using hu
    have hsl : Sl w w.heap.size E.size (some a) len cap ((List.range len).map fun i => (q i).1).flatten := by
      refine ⟨hflat, hl, hm, fun hn => ⟨a, rfl, ?_, hcell⟩⟩
      have hn0 : 0 < (((List.range len).map fun i => (q i).1).flatten).length := by rw [hflat]; exact Nat.mul_pos hn hpos
      have h0 := lt_cell (hcell 0 _ (List.getElem?_eq_getElem hn0))
      rwa [block_of_add] at h0
    refine ⟨_, (List.range len).map fun i => (q i).2, rfl, ⟨some a, cap, _, by rw [hlen], hcs, ?_⟩, fun y hy => ?_⟩
    · rw [hlen]
      exact SlT.of_sl hsl (Nat.le_refl _) (Nat.le_refl _)
    · obtain ⟨i, hi', rfl⟩ := List.mem_map.1 hy
      exact (hq i (List.mem_range.1 hi')).2.1
theorem in_blk (n : Nat) (cs : List Value) (y : DataW H × List MemPlace) (h : DataW.trod enc Try.prog w base spare held n eBlk.ty cs = some y) (hf : Fits Try.prog eBlk.ty y.1) : ∃ x, eBlk.R (ByT w w.heap.size) cs x ∧ x.length + 4096 ≤ blim := by
  obtain ⟨A, n, c, l, rfl, hb, hz⟩ := in_by h hf
  exact ⟨l, ⟨_, rfl, ByT.of_by hb (Nat.le_refl _) (Nat.le_refl _)⟩, by have := hb.len; omega⟩
theorem cells_write : Try.prog.cellsOf 60 = 2 := by kernel_rfl
theorem cells_disk : Try.prog.cellsOf 46 = 2 := by kernel_rfl
theorem cells_blks : Try.prog.cellsOf 43 = 1 := by kernel_rfl
theorem cells_lats : Try.prog.cellsOf 44 = 1 := by kernel_rfl
theorem in_wr (n : Nat) (cs : List Value) (y : DataW H × List MemPlace) (h : DataW.trod enc Try.prog w base spare held n eWr.ty cs = some y) (hf : Fits Try.prog eWr.ty y.1) : ∃ x, eWr.R (ByT w w.heap.size) cs x ∧ x.2.length + 4096 ≤ blim := by
  obtain ⟨xs, m, _, rfl, hl, hlen, ht⟩ := DataW.trod_struct Try.underlying60 h
  have h0 := ht 0 _ rfl
  have h1 := ht 1 _ rfl
  rw [cells_write] at hl
  obtain ⟨y0, y1, rfl⟩ := len2 xs hlen
  obtain ⟨a, b, rfl⟩ := len2 cs hl
  simp only [List.getElem_toArray, List.getElem_cons_zero, List.getElem_cons_succ, cells_int, cells_bytes, List.drop_zero, List.drop_succ_cons, List.take_succ_cons, List.take_zero, List.getElem?_cons_zero, List.getElem?_cons_succ] at h0 h1
  obtain ⟨k, ek, hk⟩ := in_int h0
  obtain ⟨A, n, cp, l, es, hb, hz⟩ := in_by h1 (fits_field hf Try.underlying60 1 rfl rfl)
  simp only [List.cons.injEq, and_true] at ek es
  subst ek es
  exact ⟨(k, l), ⟨_, rfl, ByT.of_by hb (Nat.le_refl _) (Nat.le_refl _)⟩, by have := hb.len; simp only; omega⟩
theorem in_disk {fuel : Nat} {cs : List Value} {x : DataW H × List MemPlace} (h : DataW.trod enc Try.prog w base spare held fuel 46 cs = some x) (hf : Fits Try.prog 46 x.1) :
    ∃ a b d, cs = [a, b] ∧ DskV tD w w.heap.size (.agg #[a, b]) d := by
  obtain ⟨xs, m, _, rfl, hl, hlen, ht⟩ := DataW.trod_struct Try.underlying46 h
  have h0 := ht 0 _ rfl
  have h1 := ht 1 _ rfl
  rw [cells_disk] at hl
  obtain ⟨y0, y1, rfl⟩ := len2 xs hlen
  obtain ⟨a, b, rfl⟩ := len2 cs hl
  simp only [List.getElem_toArray, List.getElem_cons_zero, List.getElem_cons_succ, cells_blks, cells_lats, List.drop_zero, List.drop_succ_cons, List.take_succ_cons, List.take_zero, List.getElem?_cons_zero, List.getElem?_cons_succ] at h0 h1
  obtain ⟨v0, bs, e0, r0, _⟩ := in_row eBlk (T := tD) Try.underlying43 (by kernel_rfl) _ in_blk h0 (fits_field hf Try.underlying46 0 rfl rfl)
  obtain ⟨v1, ls, e1, r1, _⟩ := in_row eWr (T := tD) Try.underlying44 (by kernel_rfl) _ in_wr h1 (fits_field hf Try.underlying46 1 rfl rfl)
  simp only [List.cons.injEq, and_true] at e0 e1
  subst e0 e1
  exact ⟨_, _, ⟨bs, ls⟩, rfl, _, _, rfl, r0, r1⟩
end
end Go.Proofs.Ytnganglmpcbcbaa
