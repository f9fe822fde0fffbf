/- Plain: disks (chapter 3). -/
import Derived.Test.YtnganglmpcbcbaaRec
namespace Go.Proofs.Ytnganglmpcbcbaa

def dFree : Dsk := ⟨(List.range 12).map fun i : Nat => rBytes rFree (i : Int), []⟩
def dLast (l : List (Int × List UInt8)) (k : Int) (b : List UInt8) : List UInt8 := l.foldl (fun b w => if w.1 = k then w.2 else b) b
def dGet (d : Dsk) (k : Int) : List UInt8 × Int :=
  if k < 0 ∨ (d.blocks.length : Int) ≤ k then ([], 3) else (dLast d.late k (d.blocks.getD k.toNat []), 0)
def dPut (d : Dsk) (k : Int) (b : List UInt8) : Dsk × Int :=
  if k < 0 ∨ (d.blocks.length : Int) ≤ k then (d, 3)
  else if b.length ≠ 16 then (d, 2)
  else (⟨d.blocks, d.late ++ [(k, b)]⟩, 0)
def dBit (bits : Int) (i : Nat) : Bool := decide (bits / 2 ^ i % 2 = 1)
/-- The blocks behind the first k late writes, those that the bits keep. -/
def kTo (l : List (Int × List UInt8)) (bits : Int) (bs : List (List UInt8)) : Nat → List (List UInt8)
  | 0 => bs
  | k + 1 => if k < 60 ∧ dBit bits k = true then (kTo l bits bs k).set (l.getD k (0, [])).1.toNat (l.getD k (0, [])).2 else kTo l bits bs k
def dKeep (d : Dsk) (bits : Int) : Dsk := ⟨kTo d.late bits d.blocks d.late.length, []⟩
def fTo (l : List (Int × List UInt8)) (bs : List (List UInt8)) : Nat → List (List UInt8)
  | 0 => bs
  | k + 1 => (fTo l bs k).set (l.getD k (0, [])).1.toNat (l.getD k (0, [])).2
def dFlush (d : Dsk) : Dsk := ⟨fTo d.late d.blocks d.late.length, []⟩
def dSpoil (d : Dsk) (k n y : Int) : Dsk :=
  if 0 ≤ k ∧ k < d.blocks.length ∧ 0 ≤ n ∧ n < (d.blocks.getD k.toNat []).length
  then ⟨d.blocks.set k.toNat ((d.blocks.getD k.toNat []).set n.toNat ((d.blocks.getD k.toNat []).getD n.toNat 0 ^^^ b8 y)), d.late⟩ else d
/-- Each late write is of a block that there is. -/
def LateIn (d : Dsk) : Prop := ∀ i, i < d.late.length → 0 ≤ (d.late.getD i (0, [])).1 ∧ (d.late.getD i (0, [])).1 < d.blocks.length

theorem kTo_length (l : List (Int × List UInt8)) (bits : Int) (bs : List (List UInt8)) : ∀ k, (kTo l bits bs k).length = bs.length
  | 0 => rfl
  | k + 1 => by
    unfold kTo
    split
    · rw [List.length_set, kTo_length l bits bs k]
    · exact kTo_length l bits bs k
theorem fTo_length (l : List (Int × List UInt8)) (bs : List (List UInt8)) : ∀ k, (fTo l bs k).length = bs.length
  | 0 => rfl
  | k + 1 => by unfold fTo; rw [List.length_set, fTo_length l bs k]
theorem dLast_nil (k : Int) (b : List UInt8) : dLast [] k b = b := rfl
theorem dLast_snoc (l : List (Int × List UInt8)) (w : Int × List UInt8) (k : Int) (b : List UInt8) : dLast (l ++ [w]) k b = if w.1 = k then w.2 else dLast l k b := by
  unfold dLast
  rw [List.foldl_append]
  rfl
theorem take_succ_getD' {α : Type} (dd : α) (l : List α) (k : Nat) (hk : k < l.length) : l.take (k + 1) = l.take k ++ [l.getD k dd] := by
  rw [List.take_succ_eq_append_getElem hk, List.getD_eq_getElem?_getD, List.getElem?_eq_getElem hk]
  rfl
theorem dLast_take (l : List (Int × List UInt8)) (k : Nat) (hk : k < l.length) (j : Int) (b : List UInt8) :
    dLast (l.take (k + 1)) j b = if (l.getD k (0, [])).1 = j then (l.getD k (0, [])).2 else dLast (l.take k) j b := by
  rw [take_succ_getD' (0, []) l k hk, dLast_snoc]
theorem getD_set {α : Type} (d : α) (l : List α) (i j : Nat) (x : α) : (l.set i x).getD j d = if i = j ∧ i < l.length then x else l.getD j d := by
  rw [List.getD_eq_getElem?_getD, List.getElem?_set]
  by_cases h : i = j
  · subst h
    by_cases hl : i < l.length
    · simp [hl]
    · simp [hl, List.getD_eq_getElem?_getD]
  · simp [h, List.getD_eq_getElem?_getD]
theorem fTo_getD (l : List (Int × List UInt8)) (bs : List (List UInt8)) (hin : ∀ i, i < l.length → 0 ≤ (l.getD i (0, [])).1 ∧ (l.getD i (0, [])).1 < bs.length) (j : Nat) :
    ∀ k, k ≤ l.length → (fTo l bs k).getD j [] = if j < bs.length then dLast (l.take k) j (bs.getD j []) else []
  | 0, _ => by
    simp only [fTo, List.take_zero, dLast_nil]
    split
    · rfl
    · rename_i h; rw [List.getD_eq_getElem?_getD, List.getElem?_eq_none (by omega)]; rfl
  | k + 1, hk => by
    have ih := fTo_getD l bs hin j k (by omega)
    have h := hin k (by omega)
    unfold fTo
    rw [getD_set, fTo_length, dLast_take l k (by omega), ih]
    by_cases hj : j < bs.length
    · simp only [hj, if_true]
      by_cases e : (l.getD k (0, [])).1 = (j : Int)
      · rw [if_pos ⟨by omega, by omega⟩, if_pos e]
      · rw [if_neg (by omega), if_neg e]
    · simp only [hj, if_false]
      rw [if_neg (by omega)]
theorem list_ext_getD {α : Type} (d : α) {l m : List α} (hl : l.length = m.length) (h : ∀ i, i < l.length → l.getD i d = m.getD i d) : l = m := by
  refine List.ext_getElem hl fun i h1 h2 => ?_
  have := h i h1
  rw [List.getD_eq_getElem?_getD, List.getD_eq_getElem?_getD, List.getElem?_eq_getElem h1, List.getElem?_eq_getElem h2] at this
  exact this
theorem dFlush_map (d : Dsk) (h : LateIn d) : dFlush d = ⟨(List.range d.blocks.length).map fun i : Nat => dLast d.late i (d.blocks.getD i []), []⟩ := by
  unfold dFlush
  congr 1
  refine list_ext_getD [] (by simp [fTo_length]) fun i hi => ?_
  rw [fTo_length] at hi
  rw [fTo_getD d.late d.blocks h i _ (Nat.le_refl _), if_pos hi, List.take_length]
  simp [List.getD_eq_getElem?_getD, List.getElem?_map, List.getElem?_range hi]
theorem dFlush_get (d : Dsk) (h : LateIn d) (j : Nat) (hj : j < d.blocks.length) : (dFlush d).blocks.getD j [] = dLast d.late j (d.blocks.getD j []) := by
  show (fTo d.late d.blocks d.late.length).getD j [] = _
  rw [fTo_getD d.late d.blocks h j _ (Nat.le_refl _), if_pos hj, List.take_length]
theorem dKeep_zero (d : Dsk) : dKeep d 0 = ⟨d.blocks, []⟩ := by
  have : ∀ k, kTo d.late 0 d.blocks k = d.blocks := by
    intro k
    induction k with
    | zero => rfl
    | succ k ih =>
      unfold kTo
      rw [if_neg (by simp [dBit]), ih]
  unfold dKeep
  rw [this]
theorem dBit_neg (i : Nat) : dBit (-1) i = true := by
  unfold dBit
  have h : (-1 : Int) / 2 ^ i = -1 := by
    have h2 : (0 : Int) < 2 ^ i := Int.pow_pos (by omega)
    exact Int.ediv_eq_neg_one_of_neg_of_le (by omega) (by omega)
  rw [h]
  decide
theorem dKeep_all (d : Dsk) (h : d.late.length ≤ 60) : dKeep d (-1) = dFlush d := by
  have : ∀ k, k ≤ 60 → kTo d.late (-1) d.blocks k = fTo d.late d.blocks k := by
    intro k
    induction k with
    | zero => intro _; rfl
    | succ k ih =>
      intro hk
      unfold kTo fTo
      rw [if_pos ⟨by omega, dBit_neg k⟩, ih (by omega)]
  unfold dKeep dFlush
  rw [this _ h]
/-- Behind some of the writes each block is one or the other. -/
theorem kTo_some (l : List (Int × List UInt8)) (bits : Int) (bs : List (List UInt8)) (hin : ∀ i, i < l.length → 0 ≤ (l.getD i (0, [])).1 ∧ (l.getD i (0, [])).1 < bs.length) (j : Nat) :
    ∀ k, k ≤ l.length → (kTo l bits bs k).getD j [] = bs.getD j [] ∨ ∃ i, i < l.length ∧ (l.getD i (0, [])).1 = (j : Int) ∧ (l.getD i (0, [])).2 = (kTo l bits bs k).getD j []
  | 0, _ => .inl rfl
  | k + 1, hk => by
    have ih := kTo_some l bits bs hin j k (by omega)
    have h := hin k (by omega)
    unfold kTo
    split
    · rw [getD_set, kTo_length]
      by_cases e : (l.getD k (0, [])).1.toNat = j ∧ (l.getD k (0, [])).1.toNat < bs.length
      · rw [if_pos e]
        exact .inr ⟨k, by omega, by omega, rfl⟩
      · rw [if_neg e]
        exact ih
    · exact ih

/-! ### DiskPut -/
theorem dPut_get (d : Dsk) (k : Int) (b : List UInt8) (h : (dPut d k b).2 = 0) : 0 ≤ k ∧ k < d.blocks.length ∧ b.length = 16 ∧ dPut d k b = (⟨d.blocks, d.late ++ [(k, b)]⟩, 0) := by
  unfold dPut at h ⊢
  split at h
  · cases h
  · rename_i h1
    split at h
    · cases h
    · rename_i h2
      refine ⟨by omega, by omega, by omega, ?_⟩
      rw [if_neg h1, if_neg h2]
theorem dPut_err (d : Dsk) (k : Int) (b : List UInt8) (h : (dPut d k b).2 ≠ 0) : (dPut d k b).1 = d := by
  unfold dPut at h ⊢
  split
  · rfl
  · rename_i h1
    rw [if_neg h1] at h
    split
    · rfl
    · rename_i h2
      rw [if_neg h2] at h
      exact absurd rfl h
theorem LateIn.put {d : Dsk} (h : LateIn d) {k : Int} {b : List UInt8} (h0 : 0 ≤ k) (h1 : k < d.blocks.length) : LateIn ⟨d.blocks, d.late ++ [(k, b)]⟩ := by
  intro i hi
  simp only [List.length_append, List.length_cons, List.length_nil] at hi
  simp only [List.getD_eq_getElem?_getD]
  rcases Nat.lt_or_ge i d.late.length with hl | hl
  · rw [List.getElem?_append_left hl]
    have := h i hl
    simpa [List.getD_eq_getElem?_getD] using this
  · have e : i = d.late.length := by omega
    subst e
    rw [List.getElem?_append_right (Nat.le_refl _), Nat.sub_self]
    exact ⟨h0, h1⟩
theorem dGet_put (d : Dsk) (k : Int) (b : List UInt8) (h0 : 0 ≤ k) (h1 : k < d.blocks.length) (j : Int) :
    dGet ⟨d.blocks, d.late ++ [(k, b)]⟩ j = if j = k then (b, 0) else dGet d j := by
  unfold dGet
  simp only [dLast_snoc]
  by_cases e : j = k
  · subst e
    rw [if_neg (by omega), if_pos rfl, if_pos rfl]
  · rw [if_neg e]
    by_cases hj : j < 0 ∨ (d.blocks.length : Int) ≤ j
    · rw [if_pos hj, if_pos hj]
    · rw [if_neg hj, if_neg hj, if_neg (fun e' => e e'.symm)]
theorem dGet_flush (d : Dsk) (h : LateIn d) (j : Int) : dGet (dFlush d) j = dGet d j := by
  unfold dGet
  have hl : (dFlush d).blocks.length = d.blocks.length := fTo_length _ _ _
  rw [hl]
  split
  · rfl
  · rename_i hj
    have := dFlush_get d h j.toNat (by omega)
    rw [show (dFlush d).late = [] from rfl, dLast_nil, this, show ((j.toNat : Nat) : Int) = j by omega]

end Go.Proofs.Ytnganglmpcbcbaa
