/- Plain: pairs of blocks (chapter 4). -/
import Derived.Test.YtnganglmpcbcbaaTurn
import Derived.Test.YtnganglmpcbcbaaPl6
namespace Go.Proofs.Ytnganglmpcbcbaa

/-- How a block of a disk is read: the record, and whether it is one. -/
def pSide (d : Dsk) (k : Int) : Rec × Bool := ((rRead (dGet d k).1 k).1, decide ((rRead (dGet d k).1 k).2 = 0))
def pTells (s : Rec × Bool) : Bool := s.2 && decide (s.1.kind ≠ 1)
def pHow (a b : Rec × Bool) : Int × Rec :=
  if a.2 = false ∧ b.2 = false then (4, rFree)
  else if pTells a = true ∧ pTells b = true then (if rSame a.1 b.1 = true then (1, a.1) else (5, a.1))
  else if pTells a = true then (2, a.1)
  else if pTells b = true then (2, b.1)
  else if a.2 = true ∧ b.2 = true then (0, rFree)
  else (3, rFree)
def pIn (d : Dsk) (p : Int) : Prop := 0 ≤ p ∧ p < (d.blocks.length : Int) / 2
instance (d : Dsk) (p : Int) : Decidable (pIn d p) := inferInstanceAs (Decidable (_ ∧ _))
def pLook (d : Dsk) (p : Int) : Int × Rec :=
  if pIn d p then pHow (pSide d (2 * p)) (pSide d (2 * p + 1)) else (4, rFree)
def pPut (d : Dsk) (p : Int) (r : Rec) : Dsk × Int :=
  if ¬ pIn d p then (d, 3) else if rWrong r ≠ 0 then (d, rWrong r)
  else (⟨d.blocks, d.late ++ [(2 * p, rBytes r (2 * p)), (2 * p + 1, rBytes r (2 * p + 1))]⟩, 0)
def pMend (d : Dsk) (p : Int) : Dsk × Int :=
  if (pLook d p).1 = 0 ∨ (pLook d p).1 = 1 then (d, (pLook d p).1) else ((pPut d p (pLook d p).2).1, (pLook d p).1)

theorem rWrong_free : rWrong rFree = 0 := by decide
theorem rFree_of {r : Rec} (h : rWrong r = 0) (hk : r.kind = 1) : r = rFree := by
  unfold rWrong at h
  split at h
  · cases h
  · split at h
    · cases h
    · split at h
      · cases h
      · split at h
        · cases h
        · have : r.data = [] := List.eq_nil_of_length_eq_zero (by omega)
          obtain ⟨a, b, c, e⟩ := r
          simp only [rFree, Rec.mk.injEq]
          simp only at hk this
          exact ⟨hk, by simp_all, by simp_all, this⟩
theorem pSide_wrong (d : Dsk) (k : Int) (h : (pSide d k).2 = true) : rWrong (pSide d k).1 = 0 := by
  unfold pSide at h ⊢
  exact (turn3 (by simpa using h)).1
theorem pHow_right {a b : Rec × Bool} (ha : a.2 = true → rWrong a.1 = 0) (hb : b.2 = true → rWrong b.1 = 0) : rWrong (pHow a b).2 = 0 := by
  unfold pHow
  have ta : pTells a = true → a.2 = true := fun h => by unfold pTells at h; simp at h; exact h.1
  have tb : pTells b = true → b.2 = true := fun h => by unfold pTells at h; simp at h; exact h.1
  repeat' split
  all_goals first
    | exact rWrong_free
    | (rename_i h; exact ha (ta h))
    | (rename_i h; exact hb (tb h))
    | (rename_i h _; exact ha (ta h.1))
    | (rename_i _ h _; exact ha (ta h.1))
theorem pLook_right (d : Dsk) (p : Int) : rWrong (pLook d p).2 = 0 := by
  unfold pLook
  split
  · exact pHow_right (pSide_wrong d _) (pSide_wrong d _)
  · exact rWrong_free
/-- Of what how says the record is free, just where it tells none. -/
theorem pHow_kind (a b : Rec × Bool) : ((pHow a b).1 = 0 → (pHow a b).2 = rFree) ∧ ((pHow a b).1 = 1 → (pHow a b).2.kind ≠ 1) ∧ 0 ≤ (pHow a b).1 ∧ (pHow a b).1 ≤ 5 := by
  have ta : pTells a = true → a.1.kind ≠ 1 := fun h => by unfold pTells at h; simp at h; exact h.2
  unfold pHow
  by_cases h0 : a.2 = false ∧ b.2 = false
  · rw [if_pos h0]; exact ⟨fun h => by simp at h, fun h => by simp at h, by simp, by simp⟩
  · rw [if_neg h0]
    by_cases h1 : pTells a = true ∧ pTells b = true
    · rw [if_pos h1]
      split
      · exact ⟨fun h => by simp at h, fun _ => ta h1.1, by simp, by simp⟩
      · exact ⟨fun h => by simp at h, fun h => by simp at h, by simp, by simp⟩
    · rw [if_neg h1]
      repeat' split
      all_goals first
        | exact ⟨fun _ => rfl, fun h => by simp at h, by simp, by simp⟩
        | exact ⟨fun h => by simp at h, fun h => by simp at h, by simp, by simp⟩
theorem pLook_kind (d : Dsk) (p : Int) : ((pLook d p).1 = 0 → (pLook d p).2 = rFree) ∧ ((pLook d p).1 = 1 → (pLook d p).2.kind ≠ 1) ∧ 0 ≤ (pLook d p).1 ∧ (pLook d p).1 ≤ 5 := by
  unfold pLook
  split
  · exact pHow_kind _ _
  · exact ⟨fun h => by simp at h, fun h => by simp at h, by simp, by simp⟩
/-- A pair both blocks of which hold a right record's bytes. -/
theorem pLook_both {d : Dsk} {p : Int} (hp : pIn d p) (h5 : p ≤ 100) {r : Rec} (hr : rWrong r = 0) (h0 : dGet d (2 * p) = (rBytes r (2 * p), 0)) (h1 : dGet d (2 * p + 1) = (rBytes r (2 * p + 1), 0)) :
    pLook d p = (if r.kind = 1 then 0 else 1, r) := by
  unfold pLook
  rw [if_pos hp]
  unfold pIn at hp
  have s0 : pSide d (2 * p) = (r, true) := by
    unfold pSide
    rw [h0, turn1 hr (by omega) (by omega)]
    rfl
  have s1 : pSide d (2 * p + 1) = (r, true) := by
    unfold pSide
    rw [h1, turn1 hr (by omega) (by omega)]
    rfl
  rw [s0, s1]
  unfold pHow pTells
  by_cases hk : r.kind = 1
  · have := rFree_of hr hk
    subst this
    simp [rFree]
  · simp [hk, (rSame_iff r r).2 rfl]
theorem pPut_in {d : Dsk} {p : Int} {r : Rec} (hp : pIn d p) (hr : rWrong r = 0) : pPut d p r = (⟨d.blocks, d.late ++ [(2 * p, rBytes r (2 * p)), (2 * p + 1, rBytes r (2 * p + 1))]⟩, 0) := by
  unfold pPut
  rw [if_neg (by simpa using hp), if_neg (by simpa using hr)]
theorem dGet_two (d : Dsk) (k : Int) (b c : List UInt8) (h0 : 0 ≤ k) (h1 : k + 1 < d.blocks.length) (j : Int) :
    dGet ⟨d.blocks, d.late ++ [(k, b), (k + 1, c)]⟩ j = if j = k + 1 then (c, 0) else if j = k then (b, 0) else dGet d j := by
  have e : d.late ++ [(k, b), (k + 1, c)] = (d.late ++ [(k, b)]) ++ [(k + 1, c)] := by simp
  rw [e, dGet_put ⟨d.blocks, d.late ++ [(k, b)]⟩ (k + 1) c (by omega) h1, dGet_put d k b h0 (by omega)]
theorem pIn_blocks {d : Dsk} {p : Int} (h : pIn d p) : 0 ≤ 2 * p ∧ 2 * p + 1 < d.blocks.length := by unfold pIn at h; omega
theorem pLook_put {d : Dsk} {p : Int} {r : Rec} (hp : pIn d p) (h5 : p ≤ 100) (hr : rWrong r = 0) : pLook (pPut d p r).1 p = (if r.kind = 1 then 0 else 1, r) := by
  have hb := pIn_blocks hp
  rw [pPut_in hp hr]
  refine pLook_both (d := ⟨d.blocks, d.late ++ [(2 * p, rBytes r (2 * p)), (2 * p + 1, rBytes r (2 * p + 1))]⟩) hp h5 hr ?_ ?_
  · rw [dGet_two d _ _ _ hb.1 hb.2, if_neg (by omega), if_pos rfl]
  · rw [dGet_two d _ _ _ hb.1 hb.2, if_pos rfl]
/-- MENDED, IT TELLS THE SAME. -/
theorem pMend_look {d : Dsk} {p : Int} (hp : pIn d p) (h5 : p ≤ 100) : pLook (pMend d p).1 p = (if (pLook d p).2.kind = 1 then 0 else 1, (pLook d p).2) := by
  have hk := pLook_kind d p
  unfold pMend
  split
  · rename_i h
    rcases h with h | h
    · rw [hk.1 h]
      exact Prod.ext (by rw [h]; rfl) (hk.1 h)
    · exact Prod.ext (by rw [if_neg (hk.2.1 h)]; exact h) rfl
  · exact pLook_put hp h5 (pLook_right d p)
theorem pMend_twice {d : Dsk} {p : Int} (hp : pIn d p) (h5 : p ≤ 100) : pMend (pMend d p).1 p = ((pMend d p).1, if (pLook d p).2.kind = 1 then 0 else 1) := by
  have h := pMend_look hp h5
  generalize (pMend d p).1 = x at h ⊢
  unfold pMend
  rw [h]
  by_cases hk : (pLook d p).2.kind = 1 <;> simp [hk]

/-! ### ONE IS ENOUGH -/
theorem b8_ne {y : Int} (h : y % 256 ≠ 0) (x : UInt8) : x ^^^ b8 y ≠ x := by
  intro e
  have h0 : b8 y = 0 := by
    have := congrArg (x ^^^ ·) e
    simpa [← UInt8.xor_assoc] using this
  have := congrArg UInt8.toNat h0
  rw [b8_toNat] at this
  simp at this
  omega
theorem pLook_one {d : Dsk} {p : Int} (hp : pIn d p) (h5 : p ≤ 100) {r : Rec} (hr : rWrong r = 0) (hk : r.kind ≠ 1) {side : Int} (hs : side = 0 ∨ side = 1) {b : List UInt8} {q : Int}
    (hb : dGet d (2 * p + side) = (b, q)) (hbad : (rRead b (2 * p + side)).2 ≠ 0 ∨ (rRead b (2 * p + side)) = (rFree, 0)) (ho : dGet d (2 * p + (1 - side)) = (rBytes r (2 * p + (1 - side)), 0)) :
    pLook d p = (2, r) := by
  unfold pLook
  rw [if_pos hp]
  unfold pIn at hp
  have so : pSide d (2 * p + (1 - side)) = (r, true) := by
    unfold pSide
    rw [ho, turn1 hr (by omega) (by omega)]
    rfl
  have tb : pTells (pSide d (2 * p + side)) = false := by
    unfold pSide pTells
    rw [hb]
    rcases hbad with h | h
    · simp [h]
    · rw [h]; rfl
  have tr : pTells (r, true) = true := by simp [pTells, hk]
  rcases hs with rfl | rfl
  · rw [show 2 * p + (1 - 0) = 2 * p + 1 by omega] at so
    rw [show 2 * p + 0 = 2 * p by omega] at tb
    rw [so]
    unfold pHow
    simp [tb, tr]
  · rw [show 2 * p + (1 - 1) = 2 * p by omega] at so
    rw [so]
    unfold pHow
    simp [tb, tr]
theorem flush_in {d : Dsk} (h : LateIn d) (j : Int) (h0 : 0 ≤ j) (h1 : j < d.blocks.length) : (dFlush d).blocks.getD j.toNat [] = (dGet d j).1 := by
  have e := congrArg Prod.fst (dGet_flush d h j)
  unfold dGet at e
  rw [if_neg (by rw [show (dFlush d).blocks.length = d.blocks.length from fTo_length _ _ _]; omega)] at e
  rw [show (dFlush d).late = [] from rfl, dLast_nil] at e
  unfold dGet
  exact e
theorem dGet_plain (bs : List (List UInt8)) (j : Int) (h0 : 0 ≤ j) (h1 : j < bs.length) : dGet ⟨bs, []⟩ j = (bs.getD j.toNat [], 0) := by
  unfold dGet
  rw [if_neg (by simp only; omega)]
  rfl
theorem LateIn.two {d : Dsk} (h : LateIn d) {k : Int} {b c : List UInt8} (h0 : 0 ≤ k) (h1 : k + 1 < d.blocks.length) : LateIn ⟨d.blocks, d.late ++ [(k, b), (k + 1, c)]⟩ := by
  have e : d.late ++ [(k, b), (k + 1, c)] = (d.late ++ [(k, b)]) ++ [(k + 1, c)] := by simp
  rw [e]
  exact (h.put (b := b) h0 (by omega)).put (b := c) (by omega) h1
theorem flush_late (d : Dsk) : LateIn (dFlush d) := fun i hi => absurd hi (by simp [dFlush])
theorem flush_length (d : Dsk) : (dFlush d).blocks.length = d.blocks.length := fTo_length _ _ _
/-- A pair of a disk, written and flushed, and one byte of one side turned: it tells the same still. -/
theorem pSpoil_one {d : Dsk} {p : Int} (hp : pIn d p) (h5 : p ≤ 100) {r : Rec} (hr : rWrong r = 0) (hk : r.kind ≠ 1) {side n y : Int} (hs : side = 0 ∨ side = 1) (hn : 0 ≤ n ∧ n < 16) (hy : y % 256 ≠ 0) (hl : LateIn d) :
    pLook (dSpoil (dFlush (pPut d p r).1) (2 * p + side) n y) p = (2, r) := by
  have hb := pIn_blocks hp
  rw [pPut_in hp hr]
  have hx := hl.two (b := rBytes r (2 * p)) (c := rBytes r (2 * p + 1)) hb.1 hb.2
  obtain ⟨x, hX⟩ : ∃ x : Dsk, x = ⟨d.blocks, d.late ++ [(2 * p, rBytes r (2 * p)), (2 * p + 1, rBytes r (2 * p + 1))]⟩ := ⟨_, rfl⟩
  have hg : ∀ s : Int, s = 0 ∨ s = 1 → (dFlush x).blocks.getD (2 * p + s).toNat [] = rBytes r (2 * p + s) := by
    intro s hs
    rw [hX, flush_in hx _ (by omega) (by simp only; omega), dGet_two d _ _ _ hb.1 hb.2]
    rcases hs with rfl | rfl
    · rw [if_neg (by omega), if_pos (by omega), Int.add_zero]
    · rw [if_pos rfl]
  have hlen : (dFlush x).blocks.length = d.blocks.length := by rw [flush_length, hX]
  rw [← hX]
  have h16 := rBytes_length (r := r) (k := 2 * p + side) (rWrong_zero' hr).1
  have e : dSpoil (dFlush x) (2 * p + side) n y = ⟨(dFlush x).blocks.set (2 * p + side).toNat ((rBytes r (2 * p + side)).set n.toNat ((rBytes r (2 * p + side)).getD n.toNat 0 ^^^ b8 y)), []⟩ := by
    unfold dSpoil
    rw [hg side hs, if_pos ⟨by omega, by rw [hlen]; omega, by omega, by omega⟩]
    rfl
  rw [e]
  refine pLook_one (d := ⟨_, []⟩) (side := side) (q := 0) (b := (rBytes r (2 * p + side)).set n.toNat ((rBytes r (2 * p + side)).getD n.toNat 0 ^^^ b8 y)) ?_ h5 hr hk hs ?_ (.inl ?_) ?_
  · unfold pIn at hp ⊢
    rw [List.length_set, hlen]
    exact hp
  · rw [dGet_plain _ _ (by omega) (by rw [List.length_set, hlen]; omega), getD_set, if_pos ⟨rfl, by rw [hlen]; omega⟩]
  · rw [rByte_found hr n.toNat _ (by omega) (fun e => b8_ne hy _ e.symm)]
    decide
  · rw [dGet_plain _ _ (by omega) (by rw [List.length_set, hlen]; omega), getD_set, if_neg (by omega), hg (1 - side) (by omega)]
theorem kTo_two (bs : List (List UInt8)) (a b : Int × List UInt8) (side : Int) (hs : side = 0 ∨ side = 1) :
    kTo [a, b] (1 + side) bs 2 = if side = 0 then bs.set a.1.toNat a.2 else bs.set b.1.toNat b.2 := by
  rcases hs with rfl | rfl
  · rfl
  · rfl
/-- One of a pair's two writes has come to a disk of free blocks. -/
theorem pKeep_one {bs : List (List UInt8)} {p : Int} (hp : pIn ⟨bs, []⟩ p) (h5 : p ≤ 100) (hfree : ∀ j : Nat, j < bs.length → bs.getD j [] = rBytes rFree (j : Int)) {r : Rec} (hr : rWrong r = 0) (hk : r.kind ≠ 1) {side : Int} (hs : side = 0 ∨ side = 1) :
    pLook (dKeep (pPut ⟨bs, []⟩ p r).1 (1 + side)) p = (2, r) := by
  have hb := pIn_blocks hp
  simp only at hb
  rw [pPut_in hp hr]
  have e : dKeep ⟨bs, [] ++ [(2 * p, rBytes r (2 * p)), (2 * p + 1, rBytes r (2 * p + 1))]⟩ (1 + side) = ⟨bs.set (2 * p + side).toNat (rBytes r (2 * p + side)), []⟩ := by
    unfold dKeep
    simp only [List.nil_append, List.length_cons, List.length_nil]
    rw [kTo_two _ _ _ side hs]
    rcases hs with rfl | rfl
    · rw [if_pos rfl, Int.add_zero]
    · rw [if_neg (by omega)]
  rw [e]
  refine pLook_one (d := ⟨_, []⟩) (side := 1 - side) (q := 0) (b := rBytes rFree (2 * p + (1 - side))) ?_ h5 hr hk (by omega) ?_ (.inr ?_) ?_
  · unfold pIn at hp ⊢
    rw [List.length_set]
    exact hp
  · rw [dGet_plain _ _ (by omega) (by rw [List.length_set]; omega), getD_set, if_neg (by omega), hfree _ (by omega), show (((2 * p + (1 - side)).toNat : Nat) : Int) = 2 * p + (1 - side) by omega]
  · exact turn1 rWrong_free (by omega) (by omega)
  · rw [show 1 - (1 - side) = side by omega, dGet_plain _ _ (by omega) (by rw [List.length_set]; omega), getD_set, if_pos ⟨rfl, by omega⟩]

end Go.Proofs.Ytnganglmpcbcbaa
