/- Texts laid together: words, plain laws and walks of the program's functions (G2). -/
import Derived.Test.YtdmnmfnmaccmoaaGreatDoorG1
import Derived.Lib.SlBytesConst
import Derived.Lib.MinMax
import Derived.Shelf.Abstract
import Derived.Shelf.RegionOpenPlain
import Derived.Deep.RegionLaw
import Derived.Lib.SliceRun
/- Walks: the document's RightDisk. -/
namespace Go.Proofs.YtdmnmfnmaccmoaaGreatDoor
open Go Go.RowKit
end Go.Proofs.YtdmnmfnmaccmoaaGreatDoor
/- SumByte: the closed fact of chapter 1, and the law's own walk. -/
namespace Go.Proofs.YtdmnmfnmaccmoaaGreatDoor
open Go Go.RowKit
theorem foldl_inj (m : List UInt8) : ∀ (s s' : Int), (m.foldl sStep s - m.foldl sStep s') % 65521 = 0 → (s - s') % 65521 = 0 := by
 induction m with
 | nil => intro s s' h; exact h
 | cons c m ih =>
  intro s s' h
  have h1 := ih _ _ h
  unfold sStep at h1
  omega
theorem sOf_append (l m : List UInt8) : sOf (l ++ m) = m.foldl sStep (sOf l) := by unfold sOf; rw [List.foldl_append]
theorem sOf_mid (A R : List UInt8) (x c : UInt8) (h : sOf (A ++ c :: R) = sOf (A ++ x :: R)) : x = c := by
 rw [sOf_append, sOf_append, List.foldl_cons, List.foldl_cons] at h
 have h5 := foldl_inj R (sStep (sOf A) c) (sStep (sOf A) x) (by rw [h]; omega)
 unfold sStep at h5
 have hc := c.toNat_lt
 have hx' := x.toNat_lt
 apply UInt8.toNat_inj.1
 omega
theorem sOf_set (l : List UInt8) (k : Nat) (c : UInt8) (hk : k < l.length) (h : sOf (l.set k c) = sOf l) : l.getD k 0 = c := by
 have e1 : l = l.take k ++ l.getD k 0 :: l.drop (k + 1) := by
  rw [List.getD_eq_getElem?_getD, List.getElem?_eq_getElem hk]
  simp
 have e2 : l.set k c = l.take k ++ c :: l.drop (k + 1) := by
  rw [List.set_eq_take_append_cons_drop, if_pos hk]
 rw [e2] at h
 exact sOf_mid _ _ _ _ (h.trans (congrArg sOf e1))
theorem sealed_set (b : List UInt8) (k : Nat) (c : UInt8) (hk : k < b.length + 2) (hne : (sSeal b).getD k 0 ≠ c) : sSealed ((sSeal b).set k c) = false := by
 rw [Bool.eq_false_iff]
 intro h
 rw [sSealed_iff] at h
 obtain ⟨b', hb⟩ := h
 have hl : b'.length = b.length := by
  have h1 := congrArg List.length hb
  rw [List.length_set, sSeal_length, sSeal_length] at h1
  omega
 apply hne
 by_cases hkb : k < b.length
 ·have e : (sSeal b).set k c = b.set k c ++ sTwo (sOf b) := by
   unfold sSeal
   rw [List.set_append_left _ _ hkb]
  rw [e] at hb
  unfold sSeal at hb
  have h1 := List.append_inj hb (by rw [List.length_set, hl])
  have h2 : sOf b = sOf b' := by
   have := h1.2
   have e1 := sNum_two (sOf b) (sOf_bd b).1 (by have := (sOf_bd b).2; omega)
   have e2 := sNum_two (sOf b') (sOf_bd b').1 (by have := (sOf_bd b').2; omega)
   unfold sTwo at this
   injection this with t1 t2
   injection t2 with t2 _
   rw [t1, t2, e2] at e1
   exact e1.symm
  rw [← h1.1] at h2
  have := sOf_set b k c hkb h2.symm
  unfold sSeal
  rw [List.getD_eq_getElem?_getD, List.getElem?_append_left hkb, ← List.getD_eq_getElem?_getD]
  exact this
 ·have e : (sSeal b).set k c = b ++ (sTwo (sOf b)).set (k - b.length) c := by
   unfold sSeal
   rw [List.set_append_right _ _ (by omega)]
  rw [e] at hb
  unfold sSeal at hb
  have h1 := List.append_inj hb hl.symm
  rw [← h1.1] at h1
  unfold sSeal
  rw [List.getD_eq_getElem?_getD, List.getElem?_append_right (by omega), ← List.getD_eq_getElem?_getD]
  have h3 := congrArg (fun l => l.getD (k - b.length) 0) h1.2
  have hlt : k - b.length < 2 := by omega
  simp only [sTwo, List.getD_eq_getElem?_getD] at h3 ⊢
  rw [List.getElem?_set_self (by simpa using hlt)] at h3
  simpa using h3.symm
end Go.Proofs.YtdmnmfnmaccmoaaGreatDoor
/- Plain: a record's bytes and the reading are each other's inverse; one byte turned is found. -/
namespace Go.Proofs.YtdmnmfnmaccmoaaGreatDoor
theorem rWrong_zero' {r : Rec} (h : rWrong r = 0) : r.data.length ≤ 8 ∧ (0 ≤ r.kind ∧ r.kind ≤ 255) ∧ (0 ≤ r.key ∧ r.key ≤ 255) ∧ (0 ≤ r.ver ∧ r.ver ≤ 60000) := by
 unfold rWrong at h
 split at h
 ·omega
 split at h
 ·omega
 split at h
 ·omega
 split at h
 ·omega
 omega
theorem rBody_length {r : Rec} {k : Int} (h : r.data.length ≤ 8) : (rBody r k).length = 14 := by
 unfold rBody sTwo
 simp
 omega
theorem rBytes_length {r : Rec} {k : Int} (h : r.data.length ≤ 8) : (rBytes r k).length = 16 := by
 unfold rBytes
 rw [sSeal_length, rBody_length h]
theorem rBytes_form (r : Rec) (k : Int) : ∃ t, rBytes r k = b8 r.kind :: b8 k :: b8 r.key :: b8 (r.ver / 256) :: b8 r.ver :: b8 r.data.length :: (r.data ++ (List.replicate (8 - r.data.length) 0 ++ t)) :=
 ⟨sTwo (sOf (rBody r k)), by unfold rBytes sSeal; unfold rBody sTwo; simp⟩
theorem b8_small {n : Int} (h0 : 0 ≤ n) (h1 : n ≤ 255) : ((b8 n).toNat : Int) = n := by rw [b8_toNat]; omega
theorem rTold_bytes {r : Rec} {k : Int} (h : rWrong r = 0) : rTold (rBytes r k) = r := by
 obtain ⟨hl, ⟨a0, a1⟩, ⟨b0, b1⟩, c0, c1⟩ := rWrong_zero' h
 obtain ⟨t, ht⟩ := rBytes_form r k
 rw [ht]
 unfold rTold
 have e5 : (b8 (r.data.length : Int)).toNat = r.data.length := by have := b8_small (n := r.data.length) (by omega) (by omega); omega
 simp only [List.getD_cons_zero, List.getD_cons_succ, b8_small a0 a1, b8_small b0 b1, sNum_two _ c0 (by omega), List.drop_succ_cons, List.drop_zero, e5, List.take_left']
theorem rRead_ok {b : List UInt8} {k : Int} (hlen : b.length = 16) (hs : sSealed b = true) (hk : ((b.getD 1 0).toNat : Int) = k) (h8 : (b.getD 5 0).toNat ≤ 8)
  (hz : ((b.drop (6 + (b.getD 5 0).toNat)).take (8 - (b.getD 5 0).toNat)).any (fun c => c != 0) = false) : rRead b k = if rWrong (rTold b) ≠ 0 then (rZero, rWrong (rTold b)) else (rTold b, 0) := by
 unfold rRead
 rw [if_neg (by omega), if_neg (by rw [hs]; simp), if_neg (by omega), if_neg (by omega), hz]
 rfl
theorem turn1 {r : Rec} {k : Int} (h : rWrong r = 0) (h0 : 0 ≤ k) (h1 : k ≤ 255) : rRead (rBytes r k) k = (r, 0) := by
 obtain ⟨hl, _⟩ := rWrong_zero' h
 have hs : sSealed (rBytes r k) = true := (sSealed_iff _).2 ⟨_, rfl⟩
 obtain ⟨t, ht⟩ := rBytes_form r k
 have e5 : (b8 (r.data.length : Int)).toNat = r.data.length := by have := b8_small (n := r.data.length) (by omega) (by omega); omega
 have g1 : (rBytes r k).getD 1 0 = b8 k := by rw [ht]; rfl
 have g5 : (rBytes r k).getD 5 0 = b8 r.data.length := by rw [ht]; rfl
 have hd : (rBytes r k).drop (6 + r.data.length) = List.replicate (8 - r.data.length) 0 ++ t := by
  rw [ht, Nat.add_comm]
  show List.drop r.data.length (r.data ++ _) = _
  rw [List.drop_left']
  rfl
 rw [rRead_ok (rBytes_length hl) hs (by rw [g1]; exact b8_small h0 h1) (by rw [g5, e5]; exact hl) (by
  rw [g5, e5, hd, List.take_left' (by simp)]
  simp), rTold_bytes h, if_neg (by rw [h]; simp)]
theorem zeros_of (l : List UInt8) (h : l.any (fun c => c != 0) = false) : l = List.replicate l.length 0 := by
 rw [List.eq_replicate_iff]
 refine ⟨rfl, fun b hb => ?_⟩
 rw [List.any_eq_false] at h
 simpa using h b hb
theorem turn3 {b : List UInt8} {k : Int} (he : (rRead b k).2 = 0) : rWrong (rRead b k).1 = 0 ∧ rBytes (rRead b k).1 k = b := by
 unfold rRead at he ⊢
 split at he
 ·omega
 rename_i hl
 split at he
 ·omega
 rename_i hs
 split at he
 ·omega
 rename_i hk
 split at he
 ·omega
 rename_i h8
 split at he
 ·omega
 rename_i hz
 split at he
 ·rename_i hw; exact absurd he hw
 rename_i hw
 have hw' : rWrong (rTold b) = 0 := by omega
 rw [if_neg hl, if_neg hs, if_neg hk, if_neg h8, if_neg hz, if_neg hw]
 refine ⟨hw', ?_⟩
 have hs' : sSealed b = true := by cases h : sSealed b <;> simp_all
 obtain ⟨b', rfl⟩ := (sSealed_iff b).1 hs'
 show sSeal (rBody (rTold (sSeal b')) k) = sSeal b'
 congr 1
 have hl' : b'.length = 14 := by rw [sSeal_length] at hl; omega
 obtain ⟨x0, x1, x2, x3, x4, x5, d, rfl⟩ : ∃ x0 x1 x2 x3 x4 x5 d, b' = x0 :: x1 :: x2 :: x3 :: x4 :: x5 :: d := by
  match b', hl' with
  | x0 :: x1 :: x2 :: x3 :: x4 :: x5 :: d, _ => exact ⟨x0, x1, x2, x3, x4, x5, d, rfl⟩
 have hd : d.length = 8 := by simpa using hl'
 have hdp : ∀ i, (sSeal (x0 :: x1 :: x2 :: x3 :: x4 :: x5 :: d)).drop (6 + i) = (d ++ sTwo (sOf (x0 :: x1 :: x2 :: x3 :: x4 :: x5 :: d))).drop i := by
  intro i
  rw [Nat.add_comm]
  rfl
 have g : ∀ j, j < 6 → (sSeal (x0 :: x1 :: x2 :: x3 :: x4 :: x5 :: d)).getD j 0 = (x0 :: x1 :: x2 :: x3 :: x4 :: x5 :: d).getD j 0 := by
  intro j hj
  unfold sSeal
  rw [List.getD_eq_getElem?_getD, List.getElem?_append_left (by simp; omega), ← List.getD_eq_getElem?_getD]
 have g0 := g 0 (by omega)
 have g1 := g 1 (by omega)
 have g2 := g 2 (by omega)
 have g3 := g 3 (by omega)
 have g4 := g 4 (by omega)
 have g5 := g 5 (by omega)
 simp only [List.getD_cons_zero, List.getD_cons_succ] at g0 g1 g2 g3 g4 g5
 rw [g1] at hk
 rw [g5] at h8 hz
 have hx5 : x5.toNat ≤ 8 := by omega
 rw [hdp, List.drop_append_of_le_length (by omega), List.take_append_of_le_length (by simp; omega)] at hz
 have hz1 := zeros_of _ (Bool.eq_false_iff.2 hz)
 rw [List.take_of_length_le (by simp; omega)] at hz1
 have hlen : (List.drop x5.toNat d).length = 8 - x5.toNat := by simp; omega
 rw [hlen] at hz1
 have hk' : x1 = b8 k := by
  have : (x1.toNat : Int) = k := by omega
  rw [← this, b8_of]
 unfold rBody rTold
 rw [g0, g2, g3, g4, g5, show (6 : Nat) = 6 + 0 from rfl, hdp, List.drop_zero, List.take_append_of_le_length (by omega), b8_of, b8_of, sTwo_sNum, ← hk']
 have hlt : (List.take x5.toNat d).length = x5.toNat := by simp; omega
 simp only [hlt, b8_of]
 rw [← hz1]
 simp
theorem rByte_found {r : Rec} {k m : Int} (h : rWrong r = 0) (i : Nat) (y : UInt8) (hi : i < 16) (hy : (rBytes r k).getD i 0 ≠ y) : rRead ((rBytes r k).set i y) m = (rZero, 7) := by
 obtain ⟨hl, _⟩ := rWrong_zero' h
 have hs : sSealed ((rBytes r k).set i y) = false := sealed_set (rBody r k) i y (by rw [rBody_length hl]; omega) hy
 unfold rRead
 rw [if_neg (by rw [List.length_set, rBytes_length hl]; simp), if_pos hs]
end Go.Proofs.YtdmnmfnmaccmoaaGreatDoor
/- Plain: versions of keys, at once (chapter 6). -/
namespace Go.Proofs.YtdmnmfnmaccmoaaGreatDoor
def mWrong (d : Ded) : Int :=
 if d.kind < 1 ∨ 3 < d.kind then 1
 else if (d.key < 1 ∨ 255 < d.key) ∨ (d.kind = 3 ∧ (d.n < 1 ∨ 60000 < d.n)) ∨ (d.kind ≠ 3 ∧ d.n ≠ 0) then 3
 else if 8 < d.data.length ∨ d.kind ≠ 1 ∧ 0 < d.data.length then 4
 else 0
def mMax (l : List Rec) : Int := l.foldl (fun n r => max n r.ver) 0
def mNext (l : List Rec) : Int := mMax l + 1
def mMade (d : Ded) (v : Int) : Rec := ⟨if d.kind = 2 then 3 else 2, d.key, v, d.data⟩
def mHit (k v : Int) (r : Rec) : Bool := decide (r.key = k) && decide (r.ver = v)
def mIdx (l : List Rec) (k v : Int) : Nat := l.findIdx (mHit k v)
def mDo (l : List Rec) (d : Ded) : List Rec × Int × Int :=
 if d.kind = 3 then
  if mIdx l d.key d.n < l.length then (l.eraseIdx (mIdx l d.key d.n), d.n, 0) else (l, 0, 6)
 else if 6 ≤ l.length then (l, 0, 9)
 else if 60000 < mNext l then (l, 0, 4)
 else (l ++ [mMade d (mNext l)], mNext l, 0)
def mLast (l : List Rec) (k : Int) : Rec := l.foldl (fun x r => if r.key = k ∧ x.ver < r.ver then r else x) rZero
def mGet (l : List Rec) (k : Int) : List UInt8 × Int :=
 if (mLast l k).kind = 0 then ([], 6) else if (mLast l k).kind = 3 then ([], 10) else ((mLast l k).data, 0)
def mSame (a b : List Rec) : Bool := a.all (fun r => b.any fun x => rSame x r) && decide (a.length = b.length)
def rOne (r : Rec) : Bool := decide (rWrong r = 0) && decide (r.kind ≠ 1)
theorem rOne_spec {r : Rec} (h : rOne r = true) : (r.kind = 2 ∨ r.kind = 3) ∧ 1 ≤ r.key ∧ r.key ≤ 255 ∧ 1 ≤ r.ver ∧ r.ver ≤ 60000 ∧ r.data.length ≤ 8 ∧ (r.kind = 3 → r.data = []) := by
 unfold rOne rWrong at h
 simp only [Bool.and_eq_true, decide_eq_true_eq] at h
 obtain ⟨h, h1⟩ := h
 split at h
 ·cases h
 ·split at h
  ·cases h
  ·split at h
   ·cases h
   ·split at h
    ·cases h
    ·refine ⟨by omega, by omega, by omega, by omega, by omega, by omega, fun h3 => List.eq_nil_of_length_eq_zero (by omega)⟩
theorem rOne_mk {r : Rec} (hk : r.kind = 2 ∨ r.kind = 3) (h1 : 1 ≤ r.key) (h2 : r.key ≤ 255) (h3 : 1 ≤ r.ver) (h4 : r.ver ≤ 60000) (h5 : r.data.length ≤ 8) (h6 : r.kind = 3 → r.data = []) : rOne r = true := by
 unfold rOne rWrong
 simp only [Bool.and_eq_true, decide_eq_true_eq]
 refine ⟨?_, by omega⟩
 rw [if_neg (by omega), if_neg (by omega), if_neg (by omega), if_neg ?_]
 rintro (h | ⟨h, h'⟩)
 ·omega
 ·have := h6 (by omega)
  rw [this] at h'
  simp at h'
theorem mMax_bd (l : List Rec) (h : ∀ r ∈ l, rOne r = true) : 0 ≤ mMax l ∧ mMax l ≤ 60000 := by
 unfold mMax
 have : ∀ (l : List Rec) (n : Int), (∀ r ∈ l, rOne r = true) → 0 ≤ n ∧ n ≤ 60000 → 0 ≤ l.foldl (fun n r => max n r.ver) n ∧ l.foldl (fun n r => max n r.ver) n ≤ 60000 := by
  intro l
  induction l with
  | nil => intro n _ h; exact h
  | cons r l ih =>
   intro n hr h
   have := rOne_spec (hr r (by simp))
   have h2 : 0 ≤ max n r.ver ∧ max n r.ver ≤ 60000 := by omega
   exact ih _ (fun x hx => hr x (by simp [hx])) h2
 exact this l 0 h (by omega)
theorem foldl_max_ge (l : List Rec) : ∀ n : Int, n ≤ l.foldl (fun n r => max n r.ver) n ∧ ∀ r ∈ l, r.ver ≤ l.foldl (fun n r => max n r.ver) n := by
 induction l with
 | nil => intro n; exact ⟨Int.le_refl _, fun r hr => by cases hr⟩
 | cons x l ih =>
  intro n
  have h := ih (max n x.ver)
  refine ⟨by have := h.1; simp only [List.foldl_cons]; omega, fun r hr => ?_⟩
  simp only [List.foldl_cons]
  rcases List.mem_cons.1 hr with rfl | hr
  ·have := h.1; omega
  ·exact h.2 r hr
theorem mMax_ge (l : List Rec) : ∀ r ∈ l, r.ver ≤ mMax l := (foldl_max_ge l 0).2
theorem mMax_snoc (l : List Rec) (r : Rec) : mMax (l ++ [r]) = max (mMax l) r.ver := by unfold mMax; rw [List.foldl_append]; rfl
theorem mMax_take (l : List Rec) (k : Nat) (hk : k < l.length) : mMax (l.take (k + 1)) = max (mMax (l.take k)) (l.getD k rZero).ver := by rw [take_succ_getD' rZero l k hk, mMax_snoc]
theorem mLast_snoc (l : List Rec) (r : Rec) (k : Int) : mLast (l ++ [r]) k = if r.key = k ∧ (mLast l k).ver < r.ver then r else mLast l k := by unfold mLast; rw [List.foldl_append]; rfl
theorem mLast_take (l : List Rec) (k : Nat) (hk : k < l.length) (key : Int) :
  mLast (l.take (k + 1)) key = if (l.getD k rZero).key = key ∧ (mLast (l.take k) key).ver < (l.getD k rZero).ver then l.getD k rZero else mLast (l.take k) key := by rw [take_succ_getD' rZero l k hk, mLast_snoc]
theorem mLast_right (l : List Rec) (h : ∀ r ∈ l, rOne r = true) (k : Int) : mLast l k = rZero ∨ (rOne (mLast l k) = true ∧ mLast l k ∈ l) := by
 have : ∀ (l m : List Rec) (x : Rec), (∀ r ∈ m, r ∈ l) → (∀ r ∈ l, rOne r = true) → (x = rZero ∨ (rOne x = true ∧ x ∈ l)) →
   let y := m.foldl (fun x r => if r.key = k ∧ x.ver < r.ver then r else x) x; y = rZero ∨ (rOne y = true ∧ y ∈ l) := by
  intro l m
  induction m with
  | nil => intro x _ _ h; exact h
  | cons r m ih =>
   intro x hm hl hx
   simp only [List.foldl_cons]
   refine ih _ (fun y hy => hm y (by simp [hy])) hl ?_
   split
   ·exact .inr ⟨hl r (hm r (by simp)), hm r (by simp)⟩
   ·exact hx
 exact this l l rZero (fun _ h => h) h (.inl rfl)
theorem mLast_kind (l : List Rec) (h : ∀ r ∈ l, rOne r = true) (k : Int) : ((mLast l k).kind = 0 ∧ mLast l k = rZero) ∨ (mLast l k).kind = 2 ∨ (mLast l k).kind = 3 := by
 rcases mLast_right l h k with e | ⟨e, _⟩
 ·exact .inl ⟨by rw [e]; rfl, e⟩
 ·exact .inr (rOne_spec e).1
theorem mSame_refl (l : List Rec) : mSame l l = true := by
 unfold mSame
 simp only [Bool.and_eq_true, List.all_eq_true, List.any_eq_true, decide_true, and_true]
 exact fun r hr => ⟨r, hr, (rSame_iff r r).2 rfl⟩
theorem mWrong_zero {d : Ded} (h : mWrong d = 0) : (d.kind = 1 ∨ d.kind = 2 ∨ d.kind = 3) ∧ 1 ≤ d.key ∧ d.key ≤ 255 ∧ (d.kind = 3 → 1 ≤ d.n ∧ d.n ≤ 60000) ∧ (d.kind ≠ 3 → d.n = 0) ∧ d.data.length ≤ 8 ∧ (d.kind ≠ 1 → d.data = []) := by
 unfold mWrong at h
 split at h
 ·cases h
 ·split at h
  ·cases h
  ·split at h
   ·cases h
   ·refine ⟨by omega, by omega, by omega, by omega, by omega, by omega, fun h3 => List.eq_nil_of_length_eq_zero (by omega)⟩
theorem mMade_one {d : Ded} {v : Int} (h : mWrong d = 0) (h1 : 1 ≤ v) (h2 : v ≤ 60000) : rOne (mMade d v) = true := by
 obtain ⟨k, a, b, _, _, e, f⟩ := mWrong_zero h
 refine rOne_mk ?_ a b h1 h2 e ?_
 ·unfold mMade; split <;> simp
 ·unfold mMade
  intro hk
  have h2 : d.kind = 2 := by
   by_cases hh : d.kind = 2
   ·exact hh
   ·simp only [hh, if_false] at hk; omega
  exact f (by omega)
theorem mIdx_lt {l : List Rec} {k v : Int} : mIdx l k v < l.length ↔ ∃ r ∈ l, mHit k v r = true := by
 unfold mIdx
 rw [List.findIdx_lt_length]
theorem mHit_iff (k v : Int) (r : Rec) : mHit k v r = true ↔ r.key = k ∧ r.ver = v := by simp [mHit]
end Go.Proofs.YtdmnmfnmaccmoaaGreatDoor
/- Plain: pairs of blocks (chapter 4). -/
namespace Go.Proofs.YtdmnmfnmaccmoaaGreatDoor
def pSide (d : Dsk) (k : Int) : Rec × Bool := ((rRead (dGet d k).1 k).1, decide ((rRead (dGet d k).1 k).2 = 0))
def pTells (s : Rec × Bool) : Bool := s.2 && decide (s.1.kind ≠ 1)
def pHow (a b : Rec × Bool) : Int × Rec :=
 if a.2 = false ∧ b.2 = false then (4, rFree)
 else if pTells a = true ∧ pTells b = true then (if rSame a.1 b.1 = true then (1, a.1) else (5, a.1))
 else if pTells a = true then (2, a.1)
 else if pTells b = true then (2, b.1)
 else if a.2 = true ∧ b.2 = true then (0, rFree)
 else (3, rFree)
def pIn (d : Dsk) (p : Int) : Prop := 0 ≤ p ∧ p < (d.blocks.length : Int) / 2
instance (d : Dsk) (p : Int) : Decidable (pIn d p) := inferInstanceAs (Decidable (_ ∧ _))
def pLook (d : Dsk) (p : Int) : Int × Rec :=
 if pIn d p then pHow (pSide d (2 * p)) (pSide d (2 * p + 1)) else (4, rFree)
def pPut (d : Dsk) (p : Int) (r : Rec) : Dsk × Int :=
 if ¬ pIn d p then (d, 3) else if rWrong r ≠ 0 then (d, rWrong r)
 else (⟨d.blocks, d.late ++ [(2 * p, rBytes r (2 * p)), (2 * p + 1, rBytes r (2 * p + 1))]⟩, 0)
def pMend (d : Dsk) (p : Int) : Dsk × Int :=
 if (pLook d p).1 = 0 ∨ (pLook d p).1 = 1 then (d, (pLook d p).1) else ((pPut d p (pLook d p).2).1, (pLook d p).1)
theorem rWrong_free : rWrong rFree = 0 := by decide
theorem rFree_of {r : Rec} (h : rWrong r = 0) (hk : r.kind = 1) : r = rFree := by
 unfold rWrong at h
 split at h
 ·cases h
 ·split at h
  ·cases h
  ·split at h
   ·cases h
   ·split at h
    ·cases h
    ·have : r.data = [] := List.eq_nil_of_length_eq_zero (by omega)
     obtain ⟨a, b, c, e⟩ := r
     simp only [rFree, Rec.mk.injEq]
     simp only at hk this
     exact ⟨hk, by simp_all, by simp_all, this⟩
theorem pSide_wrong (d : Dsk) (k : Int) (h : (pSide d k).2 = true) : rWrong (pSide d k).1 = 0 := by
 unfold pSide at h ⊢
 exact (turn3 (by simpa using h)).1
theorem pHow_right {a b : Rec × Bool} (ha : a.2 = true → rWrong a.1 = 0) (hb : b.2 = true → rWrong b.1 = 0) : rWrong (pHow a b).2 = 0 := by
 unfold pHow
 have ta : pTells a = true → a.2 = true := fun h => by unfold pTells at h; simp at h; exact h.1
 have tb : pTells b = true → b.2 = true := fun h => by unfold pTells at h; simp at h; exact h.1
 repeat' split
 all_goals first
  | exact rWrong_free
  | (rename_i h; exact ha (ta h))
  | (rename_i h; exact hb (tb h))
  | (rename_i h _; exact ha (ta h.1))
  | (rename_i _ h _; exact ha (ta h.1))
theorem pLook_right (d : Dsk) (p : Int) : rWrong (pLook d p).2 = 0 := by
 unfold pLook
 split
 ·exact pHow_right (pSide_wrong d _) (pSide_wrong d _)
 ·exact rWrong_free
theorem pHow_kind (a b : Rec × Bool) : ((pHow a b).1 = 0 → (pHow a b).2 = rFree) ∧ ((pHow a b).1 = 1 → (pHow a b).2.kind ≠ 1) ∧ 0 ≤ (pHow a b).1 ∧ (pHow a b).1 ≤ 5 := by
 have ta : pTells a = true → a.1.kind ≠ 1 := fun h => by unfold pTells at h; simp at h; exact h.2
 unfold pHow
 by_cases h0 : a.2 = false ∧ b.2 = false
 ·rw [if_pos h0]; exact ⟨fun h => by simp at h, fun h => by simp at h, by simp, by simp⟩
 ·rw [if_neg h0]
  by_cases h1 : pTells a = true ∧ pTells b = true
  ·rw [if_pos h1]
   split
   ·exact ⟨fun h => by simp at h, fun _ => ta h1.1, by simp, by simp⟩
   ·exact ⟨fun h => by simp at h, fun h => by simp at h, by simp, by simp⟩
  ·rw [if_neg h1]
   repeat' split
   all_goals first
    | exact ⟨fun _ => rfl, fun h => by simp at h, by simp, by simp⟩
    | exact ⟨fun h => by simp at h, fun h => by simp at h, by simp, by simp⟩
theorem pLook_kind (d : Dsk) (p : Int) : ((pLook d p).1 = 0 → (pLook d p).2 = rFree) ∧ ((pLook d p).1 = 1 → (pLook d p).2.kind ≠ 1) ∧ 0 ≤ (pLook d p).1 ∧ (pLook d p).1 ≤ 5 := by
 unfold pLook
 split
 ·exact pHow_kind _ _
 ·exact ⟨fun h => by simp at h, fun h => by simp at h, by simp, by simp⟩
theorem pLook_both {d : Dsk} {p : Int} (hp : pIn d p) (h5 : p ≤ 100) {r : Rec} (hr : rWrong r = 0) (h0 : dGet d (2 * p) = (rBytes r (2 * p), 0)) (h1 : dGet d (2 * p + 1) = (rBytes r (2 * p + 1), 0)) :
  pLook d p = (if r.kind = 1 then 0 else 1, r) := by
 unfold pLook
 rw [if_pos hp]
 unfold pIn at hp
 have s0 : pSide d (2 * p) = (r, true) := by
  unfold pSide
  rw [h0, turn1 hr (by omega) (by omega)]
  rfl
 have s1 : pSide d (2 * p + 1) = (r, true) := by
  unfold pSide
  rw [h1, turn1 hr (by omega) (by omega)]
  rfl
 rw [s0, s1]
 unfold pHow pTells
 by_cases hk : r.kind = 1
 ·have := rFree_of hr hk
  subst this
  simp [rFree]
 ·simp [hk, (rSame_iff r r).2 rfl]
theorem pPut_in {d : Dsk} {p : Int} {r : Rec} (hp : pIn d p) (hr : rWrong r = 0) : pPut d p r = (⟨d.blocks, d.late ++ [(2 * p, rBytes r (2 * p)), (2 * p + 1, rBytes r (2 * p + 1))]⟩, 0) := by
 unfold pPut
 rw [if_neg (by simpa using hp), if_neg (by simpa using hr)]
theorem dGet_two (d : Dsk) (k : Int) (b c : List UInt8) (h0 : 0 ≤ k) (h1 : k + 1 < d.blocks.length) (j : Int) :
  dGet ⟨d.blocks, d.late ++ [(k, b), (k + 1, c)]⟩ j = if j = k + 1 then (c, 0) else if j = k then (b, 0) else dGet d j := by
 have e : d.late ++ [(k, b), (k + 1, c)] = (d.late ++ [(k, b)]) ++ [(k + 1, c)] := by simp
 rw [e, dGet_put ⟨d.blocks, d.late ++ [(k, b)]⟩ (k + 1) c (by omega) h1, dGet_put d k b h0 (by omega)]
theorem pIn_blocks {d : Dsk} {p : Int} (h : pIn d p) : 0 ≤ 2 * p ∧ 2 * p + 1 < d.blocks.length := by unfold pIn at h; omega
theorem b8_ne {y : Int} (h : y % 256 ≠ 0) (x : UInt8) : x ^^^ b8 y ≠ x := by
 intro e
 have h0 : b8 y = 0 := by
  have := congrArg (x ^^^ ·) e
  simpa [← UInt8.xor_assoc] using this
 have := congrArg UInt8.toNat h0
 rw [b8_toNat] at this
 simp at this
 omega
theorem flush_in {d : Dsk} (h : LateIn d) (j : Int) (h0 : 0 ≤ j) (h1 : j < d.blocks.length) : (dFlush d).blocks.getD j.toNat [] = (dGet d j).1 := by
 have e := congrArg Prod.fst (dGet_flush d h j)
 unfold dGet at e
 rw [if_neg (by rw [show (dFlush d).blocks.length = d.blocks.length from fTo_length _ _ _]; omega)] at e
 rw [show (dFlush d).late = [] from rfl, dLast_nil] at e
 unfold dGet
 exact e
theorem LateIn.two {d : Dsk} (h : LateIn d) {k : Int} {b c : List UInt8} (h0 : 0 ≤ k) (h1 : k + 1 < d.blocks.length) : LateIn ⟨d.blocks, d.late ++ [(k, b), (k + 1, c)]⟩ := by
 have e : d.late ++ [(k, b), (k + 1, c)] = (d.late ++ [(k, b)]) ++ [(k + 1, c)] := by simp
 rw [e]
 exact (h.put (b := b) h0 (by omega)).put (b := c) (by omega) h1
theorem flush_length (d : Dsk) : (dFlush d).blocks.length = d.blocks.length := fTo_length _ _ _
end Go.Proofs.YtdmnmfnmaccmoaaGreatDoor
/- Plain: the index (chapter 5). -/
namespace Go.Proofs.YtdmnmfnmaccmoaaGreatDoor
def eLt (a b : Ent) : Prop := a.rcd.key < b.rcd.key ∨ (a.rcd.key = b.rcd.key ∧ (a.rcd.ver < b.rcd.ver ∨ (a.rcd.ver = b.rcd.ver ∧ a.pair < b.pair)))
instance (a b : Ent) : Decidable (eLt a b) := inferInstanceAs (Decidable (_ ∨ _))
def eSame (a b : Ent) : Bool := decide (a.pair = b.pair) && rSame a.rcd b.rcd
theorem eSame_iff (a b : Ent) : eSame a b = true ↔ a = b := by
 cases a; cases b
 simp [eSame, rSame_iff, and_comm]
instance : DecidableEq Rec := fun a b => decidable_of_iff _ (rSame_iff a b)
instance : DecidableEq Ent := fun a b => decidable_of_iff _ (eSame_iff a b)
def iIns : List Ent → Ent → List Ent
 | [], e => [e]
 | x :: l, e => if eLt e x then e :: x :: l else x :: iIns l e
def sTo (d : Dsk) : Nat → List Ent
 | 0 => []
 | k + 1 => if (pLook d k).2.kind ≠ 1 then sTo d k ++ [⟨(pLook d k).2, k⟩] else sTo d k
def iTo (d : Dsk) : Nat → List Ent
 | 0 => []
 | k + 1 => if (pLook d k).2.kind ≠ 1 then iIns (iTo d k) ⟨(pLook d k).2, k⟩ else iTo d k
def iScan (d : Dsk) : List Ent := iTo d (d.blocks.length / 2)
def iUsed (l : List Ent) (p : Int) : Bool := l.any fun e => decide (e.pair = p)
def iFreeFrom (l : List Ent) : Nat → Nat → Int
 | _, 0 => -1
 | k, n + 1 => if iUsed l k then iFreeFrom l (k + 1) n else k
def iFree (l : List Ent) (n : Int) : Int := iFreeFrom l 0 n.toNat
def iDrop (l : List Ent) (p : Int) : List Ent := l.filter fun e => !decide (e.pair = p)
def iFind (l : List Ent) (k v : Int) : Option Ent := l.find? fun e => decide (e.rcd.key = k) && decide (e.rcd.ver = v)
def eOne (e : Ent) : Bool := rOne e.rcd && decide (0 ≤ e.pair) && decide (e.pair ≤ 1000)
def iRight (l : List Ent) : Prop := (∀ e ∈ l, eOne e = true) ∧ l.Pairwise eLt ∧ l.Pairwise fun a b => a.pair ≠ b.pair
theorem eLt_trans {a b c : Ent} (h : eLt a b) (k : eLt b c) : eLt a c := by unfold eLt at *; omega
theorem eLt_irrefl (a : Ent) : ¬ eLt a a := by unfold eLt; omega
theorem eLt_asymm {a b : Ent} (h : eLt a b) : ¬ eLt b a := by unfold eLt at *; omega
theorem eLt_total {a b : Ent} (h : a.pair ≠ b.pair) (k : ¬ eLt a b) : eLt b a := by unfold eLt at *; omega
theorem iIns_mem (l : List Ent) (e x : Ent) : x ∈ iIns l e ↔ x = e ∨ x ∈ l := by
 induction l with
 | nil => simp [iIns]
 | cons y l ih =>
  unfold iIns
  split
  ·simp
  ·simp only [List.mem_cons, ih]
   constructor
   ·rintro (h | h | h) <;> simp [h]
   ·rintro (h | h | h) <;> simp [h]
theorem iIns_perm (l : List Ent) (e : Ent) : (iIns l e).Perm (l ++ [e]) := by
 induction l with
 | nil => exact List.Perm.refl _
 | cons y l ih =>
  unfold iIns
  split
  ·exact (List.perm_append_comm (l₁ := [e]) (l₂ := y :: l))
  ·exact List.Perm.cons _ ih
theorem iIns_sorted {l : List Ent} {e : Ent} (h : l.Pairwise eLt) (hp : ∀ x ∈ l, x.pair ≠ e.pair) : (iIns l e).Pairwise eLt := by
 induction l with
 | nil => simp [iIns]
 | cons y l ih =>
  obtain ⟨h1, h2⟩ := List.pairwise_cons.1 h
  unfold iIns
  split
  ·rename_i hlt
   refine List.pairwise_cons.2 ⟨fun x hx => ?_, h⟩
   rcases List.mem_cons.1 hx with rfl | hx
   ·exact hlt
   ·exact eLt_trans hlt (h1 x hx)
  ·rename_i hlt
   refine List.pairwise_cons.2 ⟨fun x hx => ?_, ih h2 fun x hx => hp x (by simp [hx])⟩
   rcases (iIns_mem l e x).1 hx with rfl | hx
   ·exact eLt_total (fun e' => hp y (by simp) e'.symm) hlt
   ·exact h1 x hx
theorem iIns_pairs {l : List Ent} {e : Ent} (h : l.Pairwise fun a b => a.pair ≠ b.pair) (hp : ∀ x ∈ l, x.pair ≠ e.pair) : (iIns l e).Pairwise fun a b => a.pair ≠ b.pair := by
 have h1 : (l ++ [e]).Pairwise fun a b => a.pair ≠ b.pair := by
  rw [List.pairwise_append]
  exact ⟨h, List.pairwise_singleton _ _, fun a ha b hb => by
   obtain rfl : b = e := by simpa using hb
   exact hp a ha⟩
 exact (iIns_perm l e).symm.pairwise h1 (fun {_ _} h => fun e => h e.symm)
theorem sorted_unique : ∀ {l m : List Ent}, l.Perm m → l.Pairwise eLt → m.Pairwise eLt → l = m
 | [], m, h, _, _ => (List.nil_perm.1 h).symm
 | x :: l, [], h, _, _ => absurd h.length_eq (by simp)
 | x :: l, y :: m, h, hl, hm => by
  obtain ⟨l1, l2⟩ := List.pairwise_cons.1 hl
  obtain ⟨m1, m2⟩ := List.pairwise_cons.1 hm
  have hx : x ∈ y :: m := h.subset (by simp)
  have hy : y ∈ x :: l := h.symm.subset (by simp)
  have e : x = y := by
   rcases List.mem_cons.1 hx with e | hx
   ·exact e
   ·rcases List.mem_cons.1 hy with e | hy
    ·exact e.symm
    ·exact absurd (l1 y hy) (eLt_asymm (m1 x hx))
  subst e
  rw [sorted_unique (List.Perm.cons_inv h) l2 m2]
theorem ins_unique {l m : List Ent} {e : Ent} (h : m.Perm (l ++ [e])) (hl : l.Pairwise eLt) (hp : ∀ x ∈ l, x.pair ≠ e.pair) (hm : m.Pairwise eLt) : m = iIns l e :=
 sorted_unique (h.trans (iIns_perm l e).symm) hm (iIns_sorted hl hp)
theorem sTo_mem (d : Dsk) : ∀ (k : Nat) (e : Ent), e ∈ sTo d k ↔ ∃ i : Nat, i < k ∧ (pLook d i).2.kind ≠ 1 ∧ e = ⟨(pLook d i).2, i⟩
 | 0, e => by simp [sTo]
 | k + 1, e => by
  have ih := sTo_mem d k e
  unfold sTo
  split
  ·rename_i hk
   rw [List.mem_append, ih]
   constructor
   ·rintro (⟨i, hi, h⟩ | h)
    ·exact ⟨i, by omega, h⟩
    ·obtain rfl := List.mem_singleton.1 h
     exact ⟨k, by omega, hk, rfl⟩
   ·rintro ⟨i, hi, h1, h2⟩
    rcases Nat.lt_or_ge i k with h | h
    ·exact .inl ⟨i, h, h1, h2⟩
    ·obtain rfl : i = k := by omega
     exact .inr (by simp [h2])
  ·rename_i hk
   rw [ih]
   constructor
   ·rintro ⟨i, hi, h⟩; exact ⟨i, by omega, h⟩
   ·rintro ⟨i, hi, h1, h2⟩
    rcases Nat.lt_or_ge i k with h | h
    ·exact ⟨i, h, h1, h2⟩
    ·obtain rfl : i = k := by omega
     exact absurd h1 hk
theorem sTo_pair (d : Dsk) (k : Nat) : ∀ e ∈ sTo d k, e.pair < k := by
 intro e he
 obtain ⟨i, hi, _, rfl⟩ := (sTo_mem d k e).1 he
 show (i : Int) < k
 omega
theorem iTo_perm (d : Dsk) : ∀ k : Nat, (iTo d k).Perm (sTo d k)
 | 0 => List.Perm.refl _
 | k + 1 => by
  unfold iTo sTo
  split
  ·exact (iIns_perm _ _).trans ((iTo_perm d k).append_right _)
  ·exact iTo_perm d k
theorem iTo_mem (d : Dsk) (k : Nat) (e : Ent) : e ∈ iTo d k ↔ ∃ i : Nat, i < k ∧ (pLook d i).2.kind ≠ 1 ∧ e = ⟨(pLook d i).2, i⟩ := by rw [(iTo_perm d k).mem_iff, sTo_mem]
theorem iTo_pair (d : Dsk) (k : Nat) : ∀ e ∈ iTo d k, e.pair < k := fun e he => sTo_pair d k e ((iTo_perm d k).subset he)
theorem iTo_ne (d : Dsk) (k : Nat) : ∀ e ∈ iTo d k, e.pair ≠ (k : Int) := fun e he => by have := iTo_pair d k e he; omega
theorem iTo_sorted (d : Dsk) : ∀ k : Nat, (iTo d k).Pairwise eLt
 | 0 => List.Pairwise.nil
 | k + 1 => by
  unfold iTo
  split
  ·exact iIns_sorted (iTo_sorted d k) (iTo_ne d k)
  ·exact iTo_sorted d k
theorem iTo_pairs (d : Dsk) : ∀ k : Nat, (iTo d k).Pairwise fun a b => a.pair ≠ b.pair
 | 0 => List.Pairwise.nil
 | k + 1 => by
  unfold iTo
  split
  ·exact iIns_pairs (iTo_pairs d k) (iTo_ne d k)
  ·exact iTo_pairs d k
theorem sTo_length (d : Dsk) : ∀ k : Nat, (sTo d k).length ≤ k
 | 0 => Nat.le_refl _
 | k + 1 => by
  have := sTo_length d k
  unfold sTo
  split
  ·simp; omega
  ·omega
theorem rOne_of {r : Rec} (h : rWrong r = 0) (hk : r.kind ≠ 1) : rOne r = true := by simp [rOne, h, hk]
theorem iScan_right (d : Dsk) (h : d.blocks.length ≤ 100) : iRight (iScan d) := by
 refine ⟨fun e he => ?_, iTo_sorted d _, iTo_pairs d _⟩
 obtain ⟨i, hi, hk, rfl⟩ := (iTo_mem d _ e).1 he
 unfold eOne
 simp only [Bool.and_eq_true, decide_eq_true_eq]
 exact ⟨⟨rOne_of (pLook_right d i) hk, by omega⟩, by omega⟩
theorem iRight_sub {l m : List Ent} (h : iRight l) (hs : m.Sublist l) : iRight m :=
 ⟨fun e he => h.1 e (hs.subset he), h.2.1.sublist hs, h.2.2.sublist hs⟩
theorem iRight_ins {l : List Ent} {e : Ent} (h : iRight l) (he : eOne e = true) (hp : ∀ x ∈ l, x.pair ≠ e.pair) : iRight (iIns l e) :=
 ⟨fun x hx => by
  rcases (iIns_mem l e x).1 hx with rfl | hx
  ·exact he
  ·exact h.1 x hx, iIns_sorted h.2.1 hp, iIns_pairs h.2.2 hp⟩
theorem iUsed_iff (l : List Ent) (p : Int) : iUsed l p = true ↔ ∃ e ∈ l, e.pair = p := by simp [iUsed]
theorem iFreeFrom_spec (l : List Ent) : ∀ (n k : Nat), (iFreeFrom l k n = -1 ∧ ∀ i, k ≤ i → i < k + n → iUsed l i = true) ∨ ∃ i : Nat, k ≤ i ∧ i < k + n ∧ iFreeFrom l k n = i ∧ iUsed l i = false ∧ ∀ j, k ≤ j → j < i → iUsed l j = true
 | 0, k => .inl ⟨rfl, fun i h1 h2 => by omega⟩
 | n + 1, k => by
  unfold iFreeFrom
  cases hu : iUsed l k with
  | true =>
   simp only [if_true]
   rcases iFreeFrom_spec l n (k + 1) with ⟨h, hall⟩ | ⟨i, h1, h2, h3, h4, h5⟩
   ·refine .inl ⟨h, fun i hi hi' => ?_⟩
    rcases Nat.lt_or_ge k i with hk | hk
    ·exact hall i hk (by omega)
    ·obtain rfl : i = k := by omega
     exact hu
   ·refine .inr ⟨i, by omega, by omega, h3, h4, fun j hj hj' => ?_⟩
    rcases Nat.lt_or_ge k j with hk | hk
    ·exact h5 j hk hj'
    ·obtain rfl : j = k := by omega
     exact hu
  | false =>
   simp only [Bool.false_eq_true, if_false]
   exact .inr ⟨k, by omega, by omega, rfl, hu, fun j h1 h2 => by omega⟩
end Go.Proofs.YtdmnmfnmaccmoaaGreatDoor
/- Disks as values: the two kinds of words for them bridged; the contracts of new disks and copies over values. -/
namespace Go.Proofs.YtdmnmfnmaccmoaaGreatDoor
open Go Go.RowKit
theorem map_single_flat (vs : List Value) : (vs.map fun v => [v]).flatten = vs := by
 induction vs with
 | nil => rfl
 | cons v r ih => simp [ih]
theorem lcells_flat (vs : List (Int × Value)) : (vs.map fun p => [Value.int .i64 p.1, p.2]).flatten = lcells vs := by
 induction vs with
 | nil => rfl
 | cons v r ih => simp [lcells, ih]
theorem getD_map {α β : Type} (f : α → β) (d : α) (d' : β) (l : List α) (i : Nat) (h : i < l.length) : (l.map f).getD i d' = f (l.getD i d) := by
 simp [List.getD_eq_getElem?_getD, List.getElem?_map, List.getElem?_eq_getElem h]
section
variable {T : List TypeId} {w : World} {rb base B n c : Nat} {A : Option Addr} {v : Value}
theorem ByE.byT {l : List UInt8} (h : ByE w base v l) : ByT w base v l := by
 obtain ⟨A, n, c, rfl, hy, ha⟩ := h
 refine ⟨A, n, c, rfl, hy, fun _ ad e => ?_⟩
 rcases ha ad e with h | ⟨cur, h⟩
 ·exact .inl h
 ·exact .inr ⟨cur, 5, by simp, h⟩
theorem OwnBlks.ownRow {bs : List (List UInt8)} (h : OwnBlks w rb base v bs) : OwnRow eBlk w rb base v bs := by
 obtain ⟨vs, ho, hv⟩ := h
 have hl : vs.length = bs.length := by have := ho.1; omega
 refine ⟨vs.map fun v => [v], ⟨by simp [hl], fun i hi => ?_⟩, by rw [map_single_flat]; exact ho⟩
 rw [getD_map _ (.bool false) _ _ _ (by omega)]
 exact ⟨_, rfl, (hv i hi).byT⟩
theorem OwnLats.ownRow {ls : List (Int × List UInt8)} (h : OwnLats w rb base v ls) : OwnRow eWr w rb base v ls := by
 obtain ⟨vs, hl, ho, hv⟩ := h
 refine ⟨vs.map fun p => [Value.int .i64 p.1, p.2], ⟨by simp [hl], fun i hi => ?_⟩, by rw [lcells_flat]; exact ho⟩
 rw [getD_map _ (0, .bool false) _ _ _ (by omega)]
 refine ⟨_, ?_, (hv i hi).2.byT⟩
 rw [(hv i hi).1]
 rfl
theorem ByT.byV {l : List UInt8} (h : ByT w base v l) : ByV w w.heap.size v l := by
 obtain ⟨A, n, c, rfl, h, _⟩ := h
 exact ⟨A, n, c, rfl, h⟩
theorem ByV.byT {l : List UInt8} (h : ByV w B v l) (hB : B ≤ base) (hB' : B ≤ w.heap.size) : ByT w base v l := by
 obtain ⟨A, n, c, rfl, h⟩ := h
 exact ByT.of_by h hB hB'
theorem css_single (P : Value → List UInt8 → Prop) (css : List (List Value)) (bs : List (List UInt8)) (h : Cs eBlk P css bs) : ∃ vs : List Value, css = vs.map (fun v => [v]) ∧ vs.length = bs.length ∧ ∀ i, i < bs.length → P (vs.getD i (.bool false)) (bs.getD i []) := by
 have hh : ∀ cs ∈ css, ∃ v, cs = [v] := fun cs hcs => by
  obtain ⟨x, v, e, _⟩ := h.mem cs hcs
  exact ⟨v, e⟩
 have e : css = (css.map fun cs => cs.headD (.bool false)).map fun v => [v] := by
  rw [List.map_map]
  conv => lhs; rw [← List.map_id css]
  apply List.map_congr_left
  intro cs hcs
  obtain ⟨v, rfl⟩ := hh cs hcs
  rfl
 refine ⟨css.map fun cs => cs.headD (.bool false), e, by simp [h.1], fun i hi => ?_⟩
 obtain ⟨v, e1, h1⟩ := h.2 i hi
 rw [getD_map _ [] _ _ _ (by have := h.1; omega), e1]
 exact h1
theorem css_pair (P : Value → List UInt8 → Prop) (css : List (List Value)) (ls : List (Int × List UInt8)) (h : Cs eWr P css ls) :
  ∃ vs : List (Int × Value), css = vs.map (fun p => [Value.int .i64 p.1, p.2]) ∧ vs.length = ls.length ∧ ∀ i, i < ls.length → (vs.getD i (0, .bool false)).1 = (ls.getD i (0, [])).1 ∧ P (vs.getD i (0, .bool false)).2 (ls.getD i (0, [])).2 := by
 have hh : ∀ cs ∈ css, ∃ k v, cs = [Value.int .i64 k, v] := fun cs hcs => by
  obtain ⟨x, v, e, _⟩ := h.mem cs hcs
  exact ⟨_, v, e⟩
 let f : List Value → Int × Value := fun cs => match cs with
  | [.int .i64 k, v] => (k, v)
  | _ => (0, .bool false)
 have e : css = (css.map f).map fun p => [Value.int .i64 p.1, p.2] := by
  rw [List.map_map]
  conv => lhs; rw [← List.map_id css]
  apply List.map_congr_left
  intro cs hcs
  obtain ⟨k, v, rfl⟩ := hh cs hcs
  rfl
 refine ⟨css.map f, e, by simp [h.1], fun i hi => ?_⟩
 obtain ⟨v, e1, h1⟩ := h.2 i hi
 rw [getD_map f [] _ _ _ (by have := h.1; omega), e1]
 exact ⟨rfl, h1⟩
theorem Row.blks {bs : List (List UInt8)} (h : Row eBlk T w base (.slice A n c) bs) : Blks w w.heap.size A n c bs := by
 obtain ⟨A', c', css, e, hc, hs⟩ := h
 injection e with e1 e2 e3
 subst e1 e2 e3
 obtain ⟨vs, rfl, hl, hv⟩ := css_single _ _ _ hc
 rw [map_single_flat] at hs
 exact ⟨vs, hl, hs.1, fun i hi => (hv i hi).byV⟩
theorem Row.lats {ls : List (Int × List UInt8)} (h : Row eWr T w base (.slice A n c) ls) : Lats w w.heap.size A n c ls := by
 obtain ⟨A', c', css, e, hc, hs⟩ := h
 injection e with e1 e2 e3
 subst e1 e2 e3
 obtain ⟨vs, rfl, hl, hv⟩ := css_pair _ _ _ hc
 rw [lcells_flat] at hs
 exact ⟨vs, hl, hs.1, fun i hi => ⟨(hv i hi).1, (hv i hi).2.byV⟩⟩
theorem Blks.row {bs : List (List UInt8)} (h : Blks w B A n c bs) (hB : B ≤ base) (hB' : B ≤ w.heap.size) : Row eBlk T w base (.slice A n c) bs := by
 have hl := h.len
 subst hl
 obtain ⟨vs, hvl, hs, hv⟩ := h
 refine ⟨A, c, vs.map fun v => [v], rfl, ⟨by simp [hvl], fun i hi => ?_⟩, by rw [map_single_flat]; exact SlT.of_sl hs hB hB'⟩
 rw [getD_map _ (.bool false) _ _ _ (by omega)]
 exact ⟨_, rfl, (hv i hi).byT hB hB'⟩
theorem Lats.row {ls : List (Int × List UInt8)} (h : Lats w B A n c ls) (hB : B ≤ base) (hB' : B ≤ w.heap.size) : Row eWr T w base (.slice A n c) ls := by
 have hl := h.len
 subst hl
 obtain ⟨vs, hvl, hs, hv⟩ := h
 refine ⟨A, c, vs.map fun p => [Value.int .i64 p.1, p.2], rfl, ⟨by simp [hvl], fun i hi => ?_⟩, by rw [lcells_flat]; exact SlT.of_sl hs hB hB'⟩
 rw [getD_map _ (0, .bool false) _ _ _ (by omega)]
 refine ⟨_, ?_, (hv i hi).2.byT hB hB'⟩
 rw [(hv i hi).1]
 rfl
end
abbrev tD : List TypeId := [22, 104]
def DskV (T : List TypeId) (w : World) (base : Nat) (v : Value) (d : Dsk) : Prop := ∃ b l, v = .agg #[b, l] ∧ Row eBlk T w base b d.blocks ∧ Row eWr T w base l d.late
def OwnD (w0 w : World) (v : Value) (d : Dsk) : Prop := ∃ b l, v = .agg #[b, l] ∧ OwnRow eBlk w w0.heap.size 0 b d.blocks ∧ OwnRow eWr w w0.heap.size 0 l d.late
section
variable {T T' : List TypeId} {w w' w0 : World} {base base' B : Nat} {v : Value} {d : Dsk}
theorem DskV.kept (h : DskV T w base v d) (k : Kept T base w w') : DskV T w' base v d := by
 obtain ⟨b, l, e, hb, hl⟩ := h
 exact ⟨b, l, e, hb.kept k, hl.kept k⟩
theorem DskV.ext (h : DskV T w base v d) (k : Ext w w') : DskV T w' base v d := h.kept (.ext k)
theorem DskV.sub (h : DskV T w base v d) (hT : T ⊆ T') (hb : base ≤ base') : DskV T' w base' v d := by
 obtain ⟨b, l, e, hb', hl⟩ := h
 exact ⟨b, l, e, hb'.sub hT hb, hl.sub hT hb⟩
theorem DskV.all (h : DskV T w base v d) : DskV T' w w.heap.size v d := by
 obtain ⟨b, l, e, hb, hl⟩ := h
 exact ⟨b, l, e, hb.all, hl.all⟩
theorem DskV.at_ (h : DskV T w base v d) : ∃ A c E e, v = .agg #[.slice A d.blocks.length c, .slice E d.late.length e] ∧ DskAt w w.heap.size A d.blocks.length c E d.late.length e d := by
 obtain ⟨b, l, rfl, hb, hl⟩ := h
 obtain ⟨A, c, rfl, _⟩ := hb.shape
 obtain ⟨E, e, rfl, _⟩ := hl.shape
 exact ⟨A, c, E, e, rfl, hb.blks, hl.lats⟩
theorem DskV.of_at {A E : Option Addr} {n c m e : Nat} (h : DskAt w B A n c E m e d) (hB : B ≤ base) (hB' : B ≤ w.heap.size) : DskV T w base (.agg #[.slice A n c, .slice E m e]) d :=
 ⟨_, _, rfl, h.blocks.row hB hB', h.late.row hB hB'⟩
theorem OwnDsk.ownD (h : OwnDsk w0 w v d) : OwnD w0 w v d := by
 obtain ⟨b, l, e, hb, hl⟩ := h
 exact ⟨b, l, e, hb.ownRow, hl.ownRow⟩
theorem OwnD.dskV (h : OwnD w0 w v d) (hT : tD ⊆ T) : DskV T w base v d := by
 obtain ⟨b, l, e, hb', hl⟩ := h
 exact ⟨b, l, e, hb'.row (List.mem_cons_of_mem _ (hT (by decide))) (Nat.zero_le _), hl.row (List.mem_cons_of_mem _ (hT (by decide))) (Nat.zero_le _)⟩
theorem OwnD.ext (h : OwnD w0 w v d) (k : Ext w w') : OwnD w0 w' v d := by
 obtain ⟨b, l, e, hb, hl⟩ := h
 exact ⟨b, l, e, hb.ext k, hl.ext k⟩
end
section
variable {T : List TypeId} {w : World} {base : Nat} {v v' : Value} {d d' : Dsk}
theorem dskOwn_v (h : DskV T w base v d) (hk : DskOk d) : Calls Tryz.prog 46 #[v] w fun e w' => ∃ v', e = .returned v' ∧ OwnD w w' v' d ∧ Ext w w' := by
 obtain ⟨A, c, E, e, rfl, h0⟩ := h.at_
 exact (dskOwn_w w h0 (Nat.le_refl _) hk).mono fun _ _ ⟨v, h1, h2, _, h3⟩ => ⟨v, h1, h2.ownD, h3⟩
theorem dskOwn_a (h : DskV T w base v d) (hk : DskOk d) : Calls Tryz.prog 46 #[v] w fun e w' => ∃ v', e = .returned v' ∧ OwnD w w' v' d ∧ Apart w.heap.size w' v' ∧ Ext w w' := by
 obtain ⟨A, c, E, e, rfl, h0⟩ := h.at_
 exact (dskOwn_w w h0 (Nat.le_refl _) hk).mono fun _ _ ⟨v, h1, h2, h4, h3⟩ => ⟨v, h1, h2.ownD, h4, h3⟩
theorem new_v (w : World) : Calls Tryz.prog 26 #[] w fun e w' => ∃ v, e = .returned v ∧ OwnD w w' v dFree ∧ Ext w w' :=
 (new_w w).mono fun _ _ ⟨v, h1, h2, h3⟩ => ⟨v, h1, h2.ownD, h3⟩
end
end Go.Proofs.YtdmnmfnmaccmoaaGreatDoor
/- The kind of a block, kept by whatever store; a region's relation that keeps a few boxes; disks kept. No walk here. -/
namespace Go.Proofs.YtdmnmfnmaccmoaaGreatDoor
open Go Go.RowKit
def Kd (w : World) (g : Nat) (t : TypeId) : Prop := ∃ cs, w.heap[g]? = some (.cells cs t (0, 0))
section
variable {w w' : World} {g B : Nat} {t : TypeId} {T : List TypeId} {base : Nat}
theorem Box.kd {cs : Array Value} (h : Box w g t cs) : Kd w g t := ⟨cs, h⟩
theorem Kd.set (h : Kd w g t) (p : Addr) (u : Value) : Kd (w.setCell p u) g t := by
 obtain ⟨cs, h⟩ := h
 by_cases e : g = p.block
 ·subst e
  unfold Kd World.setCell
  simp [Array.getElem?_modify, h]
 ·exact ⟨cs, (Below.heap_setCell w p u g e).trans h⟩
theorem Kd.lt (h : Kd w g t) : g < w.heap.size := by obtain ⟨cs, h⟩ := h; exact (Array.getElem?_eq_some_iff.1 h).1
theorem Kd.ext (h : Kd w g t) (k : Ext w w') : Kd w' g t := by
 have hl := h.lt
 obtain ⟨cs, h⟩ := h
 exact ⟨cs, (k.block g hl).trans h⟩
theorem Kd.alloc (h : Kd w g t) (o : Obj) : Kd (w.alloc o) g t := h.ext (ext_alloc _ _)
theorem Kd.drew (h : Kd w g t) : Kd w.drew g t := h
theorem Kept.setK {a : World} (k : Kept T base a w) (h : Kd w g t) (ht : t ∉ 5 :: T) (hg : base ≤ g) (j : Nat) (u : Value) : Kept T base a (w.setCell ⟨g, j, none⟩ u) := by
 obtain ⟨cs, h⟩ := h
 exact k.trans (Kept.set (cs := cs) h ht hg j u)
theorem Kept.allocK {a : World} (k : Kept T base a w) (o : Obj) : Kept T base a (w.alloc o) := k.trans (.ext (ext_alloc _ _))
theorem Kept.drewK {a : World} (k : Kept T base a w) : Kept T base a w.drew := k.trans (.ext ((Below.refl _ _).drew))
theorem Kept.extK {a : World} (k : Kept T base a w) (h : Ext w w') : Kept T base a w' := k.trans (.ext h)
theorem OwnRow.old {α : Type} {E : El α} {rb : Nat} {v : Value} {xs : List α} (h : OwnRow E w rb base v xs) {t : TypeId} (hk : Kd w g t) (hg : g < rb) (ht : t ∉ [5]) (hg' : base ≤ g) (j : Nat) (u : Value) : OwnRow E (w.setCell ⟨g, j, none⟩ u) rb base v xs := by
 obtain ⟨cs, hk⟩ := hk
 exact h.setOld (cs := cs) hk hg ht hg' j u
end
def XK (B : Nat) (gs : List Nat) (a b : World) : Prop := Below B a b ∧ ∀ g ∈ gs, b.heap[g]? = a.heap[g]?
section
variable {B : Nat} {gs : List Nat} {a b c : World}
theorem XK.refl (B : Nat) (gs : List Nat) (a : World) : XK B gs a a := ⟨Below.refl _ _, fun _ _ => rfl⟩
theorem XK.trans (h : XK B gs a b) (k : XK B gs b c) : XK B gs a c := ⟨h.1.trans k.1, fun g hg => (k.2 g hg).trans (h.2 g hg)⟩
theorem XK.ext (h : Ext a b) (hB : B ≤ a.heap.size) (hg : ∀ g ∈ gs, g < a.heap.size) : XK B gs a b := ⟨h.mono hB, fun g hm => h.block g (hg g hm)⟩
theorem XK.grown {row : Option Nat} (h : a.grownBy b row) (hb : Below B a b) (hg : ∀ g ∈ gs, g < a.heap.size ∧ some g ≠ row) : XK B gs a b := ⟨hb, fun g hm => h.block g (hg g hm).1 (hg g hm).2⟩
theorem Box.xk {g : Nat} {t : TypeId} {cs : Array Value} (h : Box a g t cs) (k : XK B gs a b) (hg : g ∈ gs) : Box b g t cs := (k.2 g hg).trans h
theorem wp_region_keep {P : Program} {Q : Exit → Act → World → Prop} (B : Nat) (gs : List Nat) {id : Nat} {a : Act} {w : World} {l : List Oper} (n : Nat) (Fs : List Nat) (t : Bool) (hn : l.length = n) (hm : P.follows .mixedOrders = true) (hs : Region.noSelect l.toArray = true)
  (h : wpTree P .any l.toArray (NoPanic Q) (XK B gs) t Fs n (Array.replicate n false) a w.drew) : (Code.region id l.toArray true).wp P Q a w :=
 wp_region_mix _ (XK.refl B gs) (fun _ _ _ h k => h.trans k) n Fs t hn hm hs h
end
section
variable {w w' : World} {rb base : Nat} {v : Value}
theorem OwnRow.kB {xs : List (List UInt8)} (h : OwnRow eBlk w rb base v xs) (k : Kept tD base w w') : OwnRow eBlk w' rb base v xs := h.kept (by decide) (Nat.le_refl _) k
theorem OwnRow.kW {xs : List (Int × List UInt8)} (h : OwnRow eWr w rb base v xs) (k : Kept tD base w w') : OwnRow eWr w' rb base v xs := h.kept (by decide) (Nat.le_refl _) k
theorem OwnRow.form {α : Type} {E : El α} {xs : List α} (h : OwnRow E w rb base v xs) : ∃ A n c, v = .slice A n c ∧ n ≤ c ∧ c ≤ maxLen ∧ Hid (n = xs.length) := by
 obtain ⟨css, hc, ho⟩ := h
 obtain ⟨A, c, rfl, hs⟩ := own_shape ho
 exact ⟨A, _, c, rfl, hs.cap, hs.max, rfl⟩
theorem Row.form {α : Type} {E : El α} {T : List TypeId} {xs : List α} (h : Row E T w base v xs) : ∃ A n c, v = .slice A n c ∧ n ≤ c ∧ c ≤ maxLen ∧ Hid (n = xs.length) := by
 obtain ⟨A, c, rfl, h1, h2⟩ := h.shape
 exact ⟨A, _, c, rfl, h1, h2, rfl⟩
theorem ByT.form {l : List UInt8} (h : ByT w base v l) : ∃ A n c, v = .slice A n c ∧ By w w.heap.size A n c l ∧ Hid (n = l.length) := by
 obtain ⟨A, c, rfl, h0⟩ := h.by_
 exact ⟨A, _, c, rfl, h0, rfl⟩
theorem own_block {rb e size n : Nat} {xs : List Value} (h : w.ownsRow rb e size v n xs) {g : Nat} (hg : v.ownBlock = some g) : Kd w g e := by
 rcases h.2 with ⟨rfl, _⟩ | ⟨g', cap, cur, rfl, _, h2, _⟩
 ·cases hg
 ·simp only [Value.ownBlock, Option.some.injEq] at hg
  subst hg
  exact ⟨cur, h2⟩
theorem Kd.ne {g g' : Nat} {t t' : TypeId} (h : Kd w g t) (h' : Kd w g' t') (ht : t ≠ t') : g ≠ g' := by
 rintro rfl
 obtain ⟨c, h⟩ := h
 obtain ⟨c', h'⟩ := h'
 rw [h] at h'
 injection h' with h'
 injection h' with _ h'
 exact ht h'
theorem own_ne {rb e size n : Nat} {xs : List Value} {row : Value} (h : w.ownsRow rb e size row n xs) {g : Nat} {t : TypeId} (hk : Kd w g t) (ht : t ≠ e) : some g ≠ row.ownBlock := fun e0 =>
 Kd.ne hk (own_block h e0.symm) ht rfl
end
end Go.Proofs.YtdmnmfnmaccmoaaGreatDoor
/- append onto a row of the call's own, element by element, kind by kind. -/
namespace Go.Proofs.YtdmnmfnmaccmoaaGreatDoor
open Go Go.RowKit
section
variable {o : Oper} {a : Act} {K : Act → World → Prop} {Q : Exit → Act → World → Prop}
end
section
variable {o : Oper} {a : Act} {K : Act → World → Prop} {Q : Exit → Act → World → Prop}
theorem wpo_wr {w : World} (s x : Operand)
  (ho : o.op = .call { callee := .builtin .append, args := #[s, x], argTypes := #[25, 25] })
  {rb base : Nat} {v : Value} {xs : List (Int × List UInt8)} (hs : a.eval s = v) (hown : OwnRow eWr w rb base v xs)
  {B : Nat} {A : Option Addr} {c : Nat} {cs : List Value} {y : Int × List UInt8} (hx : a.eval x = .slice A 1 c) (hr : Sl w B 2 A 1 c cs) (hc : eWr.R (ByT w base) cs y)
  (hlim : xs.length + 1 ≤ lim) (hbase : rb ≤ w.heap.size) (hb : base ≤ rb)
  (h : ∀ v' w', OwnRow eWr w' rb base v' (xs ++ [y]) → w.grownBy w' v.ownBlock → Below rb w w' → K (a.put o.dst v') w') : o.wp Tryz.prog a w K Q := by
 obtain ⟨css, hc0, ho0⟩ := hown
 exact wp_app_wr s x ho rb v xs.length css.flatten hs ho0 B A 1 c cs hx hr (eWr.one ByT.one hc) hlim hbase fun v' w' h2 h3 h4 _ => h v' w' (OwnRow.app hc0 ho0 (Cs.single hc) (by rw [show [cs].flatten = cs by simp]; exact h2) h3 (by decide) hb) h3 h4
end
section
variable {o : Oper} {a : Act} {K : Act → World → Prop} {Q : Exit → Act → World → Prop}
theorem wpo_rec {w : World} (s x : Operand)
  (ho : o.op = .call { callee := .builtin .append, args := #[s, x], argTypes := #[46, 46] })
  {rb base : Nat} {v : Value} {xs : List (Rec)} (hs : a.eval s = v) (hown : OwnRow eRec w rb base v xs)
  {B : Nat} {A : Option Addr} {c : Nat} {cs : List Value} {y : Rec} (hx : a.eval x = .slice A 1 c) (hr : Sl w B 4 A 1 c cs) (hc : eRec.R (ByT w base) cs y)
  (hlim : xs.length + 1 ≤ lim) (hbase : rb ≤ w.heap.size) (hb : base ≤ rb)
  (h : ∀ v' w', OwnRow eRec w' rb base v' (xs ++ [y]) → w.grownBy w' v.ownBlock → Below rb w w' → K (a.put o.dst v') w') : o.wp Tryz.prog a w K Q := by
 obtain ⟨css, hc0, ho0⟩ := hown
 exact wp_app_rec s x ho rb v xs.length css.flatten hs ho0 B A 1 c cs hx hr (eRec.one ByT.one hc) hlim hbase fun v' w' h2 h3 h4 _ => h v' w' (OwnRow.app hc0 ho0 (Cs.single hc) (by rw [show [cs].flatten = cs by simp]; exact h2) h3 (by decide) hb) h3 h4
theorem wpl_rec {ops : Array Oper} {rest : List Oper} {w : World} (hgd : o.guard = none) (s x : Operand)
  (ho : o.op = .call { callee := .builtin .append, args := #[s, x], argTypes := #[46, 46] })
  {rb base : Nat} {v : Value} {xs : List (Rec)} (hs : a.eval s = v) (hown : OwnRow eRec w rb base v xs)
  {B : Nat} {A : Option Addr} {c : Nat} {cs : List Value} {y : Rec} (hx : a.eval x = .slice A 1 c) (hr : Sl w B 4 A 1 c cs) (hc : eRec.R (ByT w base) cs y)
  (hlim : xs.length + 1 ≤ lim) (hbase : rb ≤ w.heap.size) (hb : base ≤ rb)
  (h : ∀ v' w', OwnRow eRec w' rb base v' (xs ++ [y]) → w.grownBy w' v.ownBlock → Below rb w w' → wpList Tryz.prog ops Q rest (a.put o.dst v') w') : wpList Tryz.prog ops Q (o :: rest) a w :=
 wpList_plain hgd fun _ hK => wpo_rec s x ho hs hown hx hr hc hlim hbase hb fun v' w' h2 h3 h4 => hK _ _ (h v' w' h2 h3 h4)
end
section
variable {o : Oper} {a : Act} {K : Act → World → Prop} {Q : Exit → Act → World → Prop}
theorem wpo_ent {w : World} (s x : Operand)
  (ho : o.op = .call { callee := .builtin .append, args := #[s, x], argTypes := #[28, 28] })
  {rb base : Nat} {v : Value} {xs : List (Ent)} (hs : a.eval s = v) (hown : OwnRow eEnt w rb base v xs)
  {B : Nat} {A : Option Addr} {c : Nat} {cs : List Value} {y : Ent} (hx : a.eval x = .slice A 1 c) (hr : Sl w B 5 A 1 c cs) (hc : eEnt.R (ByT w base) cs y)
  (hlim : xs.length + 1 ≤ lim) (hbase : rb ≤ w.heap.size) (hb : base ≤ rb)
  (h : ∀ v' w', OwnRow eEnt w' rb base v' (xs ++ [y]) → w.grownBy w' v.ownBlock → Below rb w w' → K (a.put o.dst v') w') : o.wp Tryz.prog a w K Q := by
 obtain ⟨css, hc0, ho0⟩ := hown
 exact wp_app_ent s x ho rb v xs.length css.flatten hs ho0 B A 1 c cs hx hr (eEnt.one ByT.one hc) hlim hbase fun v' w' h2 h3 h4 _ => h v' w' (OwnRow.app hc0 ho0 (Cs.single hc) (by rw [show [cs].flatten = cs by simp]; exact h2) h3 (by decide) hb) h3 h4
theorem wpl_ent {ops : Array Oper} {rest : List Oper} {w : World} (hgd : o.guard = none) (s x : Operand)
  (ho : o.op = .call { callee := .builtin .append, args := #[s, x], argTypes := #[28, 28] })
  {rb base : Nat} {v : Value} {xs : List (Ent)} (hs : a.eval s = v) (hown : OwnRow eEnt w rb base v xs)
  {B : Nat} {A : Option Addr} {c : Nat} {cs : List Value} {y : Ent} (hx : a.eval x = .slice A 1 c) (hr : Sl w B 5 A 1 c cs) (hc : eEnt.R (ByT w base) cs y)
  (hlim : xs.length + 1 ≤ lim) (hbase : rb ≤ w.heap.size) (hb : base ≤ rb)
  (h : ∀ v' w', OwnRow eEnt w' rb base v' (xs ++ [y]) → w.grownBy w' v.ownBlock → Below rb w w' → wpList Tryz.prog ops Q rest (a.put o.dst v') w') : wpList Tryz.prog ops Q (o :: rest) a w :=
 wpList_plain hgd fun _ hK => wpo_ent s x ho hs hown hx hr hc hlim hbase hb fun v' w' h2 h3 h4 => hK _ _ (h v' w' h2 h3 h4)
end
section
variable {o : Oper} {a : Act} {K : Act → World → Prop} {Q : Exit → Act → World → Prop}
theorem wpo_int {w : World} (s x : Operand)
  (ho : o.op = .call { callee := .builtin .append, args := #[s, x], argTypes := #[44, 44] })
  {rb base : Nat} {v : Value} {xs : List (Int)} (hs : a.eval s = v) (hown : OwnRow eInt w rb base v xs)
  {B : Nat} {A : Option Addr} {c : Nat} {cs : List Value} {y : Int} (hx : a.eval x = .slice A 1 c) (hr : Sl w B 1 A 1 c cs) (hc : eInt.R (ByT w base) cs y)
  (hlim : xs.length + 1 ≤ lim) (hbase : rb ≤ w.heap.size) (hb : base ≤ rb)
  (h : ∀ v' w', OwnRow eInt w' rb base v' (xs ++ [y]) → w.grownBy w' v.ownBlock → Below rb w w' → K (a.put o.dst v') w') : o.wp Tryz.prog a w K Q := by
 obtain ⟨css, hc0, ho0⟩ := hown
 exact wp_app_int s x ho rb v xs.length css.flatten hs ho0 B A 1 c cs hx hr (eInt.one ByT.one hc) hlim hbase fun v' w' h2 h3 h4 _ => h v' w' (OwnRow.app hc0 ho0 (Cs.single hc) (by rw [show [cs].flatten = cs by simp]; exact h2) h3 (by decide) hb) h3 h4
theorem wpl_int {ops : Array Oper} {rest : List Oper} {w : World} (hgd : o.guard = none) (s x : Operand)
  (ho : o.op = .call { callee := .builtin .append, args := #[s, x], argTypes := #[44, 44] })
  {rb base : Nat} {v : Value} {xs : List (Int)} (hs : a.eval s = v) (hown : OwnRow eInt w rb base v xs)
  {B : Nat} {A : Option Addr} {c : Nat} {cs : List Value} {y : Int} (hx : a.eval x = .slice A 1 c) (hr : Sl w B 1 A 1 c cs) (hc : eInt.R (ByT w base) cs y)
  (hlim : xs.length + 1 ≤ lim) (hbase : rb ≤ w.heap.size) (hb : base ≤ rb)
  (h : ∀ v' w', OwnRow eInt w' rb base v' (xs ++ [y]) → w.grownBy w' v.ownBlock → Below rb w w' → wpList Tryz.prog ops Q rest (a.put o.dst v') w') : wpList Tryz.prog ops Q (o :: rest) a w :=
 wpList_plain hgd fun _ hK => wpo_int s x ho hs hown hx hr hc hlim hbase hb fun v' w' h2 h3 h4 => hK _ _ (h v' w' h2 h3 h4)
end
section
variable {o : Oper} {a : Act} {K : Act → World → Prop} {Q : Exit → Act → World → Prop}
end
section
variable {o : Oper} {a : Act} {K : Act → World → Prop} {Q : Exit → Act → World → Prop}
end
section
variable {o : Oper} {a : Act} {K : Act → World → Prop} {Q : Exit → Act → World → Prop}
end
section
variable {o : Oper} {a : Act} {K : Act → World → Prop} {Q : Exit → Act → World → Prop}
theorem wpa_rec {w : World} (s x : Operand)
  (ho : o.op = .call { callee := .builtin .append, args := #[s, x], argTypes := #[46, 46] })
  {T : List TypeId} {rb base : Nat} {v u : Value} {xs ys : List (Rec)} (hs : a.eval s = v) (hown : OwnRow eRec w rb base v xs)
  (hx : a.eval x = u) (hr : Row eRec T w base u ys)
  (hlim : xs.length + ys.length ≤ lim) (hbase : rb ≤ w.heap.size) (hb : base ≤ rb)
  (h : ∀ v' w', OwnRow eRec w' rb base v' (xs ++ ys) → w.grownBy w' v.ownBlock → Below rb w w' → K (a.put o.dst v') w') : o.wp Tryz.prog a w K Q := by
 obtain ⟨css, hc0, ho0⟩ := hown
 obtain ⟨A, c, css', rfl, hc', hs'⟩ := hr
 exact wp_app_rec s x ho rb v xs.length css.flatten hs ho0 w.heap.size A ys.length c css'.flatten hx hs'.1 (hc'.one ByT.one) hlim hbase fun v' w' h2 h3 h4 _ => h v' w' (OwnRow.app hc0 ho0 hc' h2 h3 (by decide) hb) h3 h4
theorem wpal_rec {ops : Array Oper} {rest : List Oper} {w : World} (hgd : o.guard = none) (s x : Operand)
  (ho : o.op = .call { callee := .builtin .append, args := #[s, x], argTypes := #[46, 46] })
  {T : List TypeId} {rb base : Nat} {v u : Value} {xs ys : List (Rec)} (hs : a.eval s = v) (hown : OwnRow eRec w rb base v xs)
  (hx : a.eval x = u) (hr : Row eRec T w base u ys)
  (hlim : xs.length + ys.length ≤ lim) (hbase : rb ≤ w.heap.size) (hb : base ≤ rb)
  (h : ∀ v' w', OwnRow eRec w' rb base v' (xs ++ ys) → w.grownBy w' v.ownBlock → Below rb w w' → wpList Tryz.prog ops Q rest (a.put o.dst v') w') : wpList Tryz.prog ops Q (o :: rest) a w :=
 wpList_plain hgd fun _ hK => wpa_rec s x ho hs hown hx hr hlim hbase hb fun v' w' h2 h3 h4 => hK _ _ (h v' w' h2 h3 h4)
end
section
variable {o : Oper} {a : Act} {K : Act → World → Prop} {Q : Exit → Act → World → Prop}
end
section
variable {o : Oper} {a : Act} {K : Act → World → Prop} {Q : Exit → Act → World → Prop}
end
theorem OwnRow.empty {α : Type} (E : El α) (w : World) {rb base : Nat} (h : rb ≤ w.heap.size) : OwnRow E (w.alloc (.cells #[] E.ty)) rb base (.slice (some ⟨w.heap.size, 0, none⟩) 0 0) [] :=
 ⟨[], Cs.nil, own_lit w [] _ h (by simp) (by unfold maxLen; omega)⟩
end Go.Proofs.YtdmnmfnmaccmoaaGreatDoor
/- Rows read, element by element. No walk here. -/
namespace Go.Proofs.YtdmnmfnmaccmoaaGreatDoor
open Go Go.RowKit
section
variable {T : List TypeId} {w : World} {base n c : Nat} {A : Option Addr}
theorem Row.blk_at {bs : List (List UInt8)} (h : Row eBlk T w base (.slice A n c) bs) {i : Nat} (hi : i < n) :
  ∃ b o u, A = some ⟨b, o, none⟩ ∧ b < w.heap.size ∧ w.cell? ⟨b, o + i, none⟩ = some u ∧ ByT w base u (bs.getD i []) := by
 obtain ⟨b, o, cs, rfl, hb, _, ⟨u, rfl, hu⟩, hc⟩ := h.at_ hi
 refine ⟨b, o, u, rfl, hb, ?_, hu⟩
 have := hc 0 u rfl
 rwa [show i * eBlk.size + 0 = i from by show i * 1 + 0 = i; omega] at this
theorem Row.wr_at {ls : List (Int × List UInt8)} (h : Row eWr T w base (.slice A n c) ls) {i : Nat} (hi : i < n) :
  ∃ b o k u, A = some ⟨b, o, none⟩ ∧ b < w.heap.size ∧ w.cell? ⟨b, o + i * 2, none⟩ = some (.int .i64 k) ∧ w.cell? ⟨b, o + i * 2 + 1, none⟩ = some u ∧ Hid (k = (ls.getD i (0, [])).1) ∧ ByT w base u (ls.getD i (0, [])).2 := by
 obtain ⟨b, o, cs, rfl, hb, _, ⟨u, rfl, hu⟩, hc⟩ := h.at_ hi
 exact ⟨b, o, _, u, rfl, hb, hc 0 _ rfl, hc 1 _ rfl, rfl, hu⟩
theorem Row.rec_at {l : List Rec} (h : Row eRec T w base (.slice A n c) l) {i : Nat} (hi : i < n) :
  ∃ b o u, A = some ⟨b, o, none⟩ ∧ b < w.heap.size ∧ w.cell? ⟨b, o + i * 4, none⟩ = some (.int .i64 (l.getD i rZero).kind) ∧ w.cell? ⟨b, o + i * 4 + 1, none⟩ = some (.int .i64 (l.getD i rZero).key) ∧
   w.cell? ⟨b, o + i * 4 + 2, none⟩ = some (.int .i64 (l.getD i rZero).ver) ∧ w.cell? ⟨b, o + i * 4 + 3, none⟩ = some u ∧ ByT w base u (l.getD i rZero).data := by
 obtain ⟨b, o, cs, rfl, hb, _, ⟨u, rfl, hu⟩, hc⟩ := h.at_ hi
 exact ⟨b, o, u, rfl, hb, hc 0 _ rfl, hc 1 _ rfl, hc 2 _ rfl, hc 3 _ rfl, hu⟩
theorem Row.ent_at {l : List Ent} (h : Row eEnt T w base (.slice A n c) l) {i : Nat} (hi : i < n) :
  ∃ b o u, A = some ⟨b, o, none⟩ ∧ b < w.heap.size ∧ w.cell? ⟨b, o + i * 5, none⟩ = some (.int .i64 (l.getD i ⟨rZero, 0⟩).rcd.kind) ∧ w.cell? ⟨b, o + i * 5 + 1, none⟩ = some (.int .i64 (l.getD i ⟨rZero, 0⟩).rcd.key) ∧
   w.cell? ⟨b, o + i * 5 + 2, none⟩ = some (.int .i64 (l.getD i ⟨rZero, 0⟩).rcd.ver) ∧ w.cell? ⟨b, o + i * 5 + 3, none⟩ = some u ∧ w.cell? ⟨b, o + i * 5 + 4, none⟩ = some (.int .i64 (l.getD i ⟨rZero, 0⟩).pair) ∧
   ByT w base u (l.getD i ⟨rZero, 0⟩).rcd.data := by
 obtain ⟨b, o, cs, rfl, hb, _, ⟨u, rfl, hu⟩, hc⟩ := h.at_ hi
 exact ⟨b, o, u, rfl, hb, hc 0 _ rfl, hc 1 _ rfl, hc 2 _ rfl, hc 3 _ rfl, hc 4 _ rfl, hu⟩
theorem Row.int_at {l : List Int} (h : Row eInt T w base (.slice A n c) l) {i : Nat} (hi : i < n) :
  ∃ b o, A = some ⟨b, o, none⟩ ∧ b < w.heap.size ∧ w.cell? ⟨b, o + i, none⟩ = some (.int .i64 (l.getD i 0)) := by
 obtain ⟨b, o, cs, rfl, hb, _, rfl, hc⟩ := h.at_ hi
 refine ⟨b, o, rfl, hb, ?_⟩
 have := hc 0 _ rfl
 rwa [show i * eInt.size + 0 = i from by show i * 1 + 0 = i; omega] at this
theorem Row.err_at {l : List Int} (h : Row eErr T w base (.slice A n c) l) {i : Nat} (hi : i < n) :
  ∃ b o, A = some ⟨b, o, none⟩ ∧ b < w.heap.size ∧ w.cell? ⟨b, o + i, none⟩ = some (.int .i64 (l.getD i 0)) := by
 obtain ⟨b, o, cs, rfl, hb, _, rfl, hc⟩ := h.at_ hi
 refine ⟨b, o, rfl, hb, ?_⟩
 have := hc 0 _ rfl
 rwa [show i * eErr.size + 0 = i from by show i * 1 + 0 = i; omega] at this
theorem DskV.form {v : Value} {d : Dsk} (h : DskV T w base v d) : ∃ A n c E m e, v = .agg #[.slice A n c, .slice E m e] ∧ Hid (n = d.blocks.length) ∧ Hid (m = d.late.length) ∧ Row eBlk T w base (.slice A n c) d.blocks ∧ Row eWr T w base (.slice E m e) d.late ∧ n ≤ c ∧ m ≤ e := by
 obtain ⟨b, l, rfl, hb, hl⟩ := h
 obtain ⟨A, n, c, rfl, h1, _, h2⟩ := hb.form
 obtain ⟨E, m, e, rfl, h3, _, h4⟩ := hl.form
 exact ⟨A, n, c, E, m, e, rfl, h2, h4, hb, hl, h1, h3⟩
end
end Go.Proofs.YtdmnmfnmaccmoaaGreatDoor
/- An argument's reading, opened: rows, disks. -/
namespace Go.Proofs.YtdmnmfnmaccmoaaGreatDoor
open Go Go.RowKit Go.ChangeShapes Go.WideShapes Go.ChangeAt
section
variable {H : Type} {enc : TypeId × Value → H} {w : World} {base : Nat} {spare : Nat → Bool} {held : Bool}
theorem in_row {α : Type} (E : El α) {T : List TypeId} {t : TypeId} (ht : Tryz.prog.underlying t = some (.slice E.ty)) (hce : Tryz.prog.cellsOf E.ty = E.size) (Q : α → Prop)
  (hop : ∀ n cs y, DataW.trod enc Tryz.prog w base spare held n E.ty cs = some y → Fits Tryz.prog E.ty y.1 → ∃ x, E.R (ByT w w.heap.size) cs x ∧ Q x)
  {fuel : Nat} {cs : List Value} {x : DataW H × List MemPlace} (h : DataW.trod enc Tryz.prog w base spare held fuel t cs = some x) (hf : Fits Tryz.prog t x.1) :
  ∃ v xs, cs = [v] ∧ Row E T w w.heap.size v xs ∧ ∀ y ∈ xs, Q y := by
 rcases DataW.trod_slice ht h with ⟨rfl, _⟩ | ⟨a, len, cap, elems, rest, n, _, rfl, rfl, _, hl, hm, hel, hi, _, _⟩
 ·exact ⟨_, [], rfl, Row.nil _ _ _ _, by simp⟩
 ·have each : ∀ i, i < len → ∃ q : List Value × α, E.R (ByT w w.heap.size) q.1 q.2 ∧ Q q.2 ∧ ∀ r u, q.1[r]? = some u → w.cell? (a.add (i * E.size + r)) = some u := by
   intro i hi'
   have h1 := hi i hi'
   rw [List.getElem?_eq_getElem (by omega), Option.bind_eq_some_iff] at h1
   obtain ⟨cs', h2, h3⟩ := h1
   obtain ⟨z, hz1, hz2⟩ := hop _ _ _ h3 (fits_elem hf ht (i := i) (by rw [List.getElem?_map, List.getElem?_eq_getElem (by omega)]; rfl))
   rw [hce] at h2
   obtain ⟨_, hlen, hcell⟩ := World.cells?_some h2
   refine ⟨(cs', z), hz1, hz2, fun r u hu => ?_⟩
   have hr : r < E.size := by
    rcases Nat.lt_or_ge r cs'.length with h | h
    ·omega
    ·rw [List.getElem?_eq_none h] at hu; cases hu
   have := hcell r hr
   rw [add_of_add] at this
   rw [this, hu]
  have hq : ∃ q : Nat → List Value × α, ∀ i, i < len → E.R (ByT w w.heap.size) (q i).1 (q i).2 ∧ Q (q i).2 ∧ ∀ r u, (q i).1[r]? = some u → w.cell? (a.add (i * E.size + r)) = some u :=
   ⟨fun i => if h : i < len then Classical.choose (each i h) else ([], E.d), fun i h => by simp only [h, dif_pos]; exact Classical.choose_spec (each i h)⟩
  obtain ⟨q, hq⟩ := hq
  have hcs : Cs E (ByT w w.heap.size) ((List.range len).map fun i => (q i).1) ((List.range len).map fun i => (q i).2) := by
   refine ⟨by simp, fun i hi' => ?_⟩
   simp only [List.length_map, List.length_range] at hi'
   have := (hq i hi').1
   simpa [List.getD_eq_getElem?_getD, List.getElem?_map, List.getElem?_range hi'] using this
  have hpos := E.pos
  have hflat := hcs.flat
  have hlen : ((List.range len).map fun i => (q i).2).length = len := by simp
  rw [hlen] at hflat
  have hcell : ∀ j u, ((List.range len).map fun i => (q i).1).flatten[j]? = some u → w.cell? (a.add j) = some u := by
   intro j u hu
   have hj : j < len * E.size := by
    rcases Nat.lt_or_ge j (((List.range len).map fun i => (q i).1).flatten).length with h | h
    ·omega
    ·rw [List.getElem?_eq_none h] at hu; cases hu
   have hdiv : j / E.size < len := Nat.div_lt_of_lt_mul (by rw [Nat.mul_comm]; exact hj)
   have hmod := Nat.mod_lt j hpos
   have e : j = j / E.size * E.size + j % E.size := by rw [Nat.mul_comm]; exact (Nat.div_add_mod j E.size).symm
   rw [e, flat_at _ hcs.each _ _ (by simpa using hdiv) hmod] at hu
   rw [e]
   refine (hq _ hdiv).2.2 _ u ?_
   simpa [List.getD_eq_getElem?_getD, List.getElem?_map, List.getElem?_range hdiv] using hu
  have hsl : Sl w w.heap.size E.size (some a) len cap ((List.range len).map fun i => (q i).1).flatten := by
   refine ⟨hflat, hl, hm, fun hn => ⟨a, rfl, ?_, hcell⟩⟩
   have hn0 : 0 < (((List.range len).map fun i => (q i).1).flatten).length := by rw [hflat]; exact Nat.mul_pos hn hpos
   have h0 := lt_cell (hcell 0 _ (List.getElem?_eq_getElem hn0))
   rwa [block_of_add] at h0
  refine ⟨_, (List.range len).map fun i => (q i).2, rfl, ⟨some a, cap, _, by rw [hlen], hcs, ?_⟩, fun y hy => ?_⟩
  ·rw [hlen]
   exact SlT.of_sl hsl (Nat.le_refl _) (Nat.le_refl _)
  ·obtain ⟨i, hi', rfl⟩ := List.mem_map.1 hy
   exact (hq i (List.mem_range.1 hi')).2.1
theorem in_blk (n : Nat) (cs : List Value) (y : DataW H × List MemPlace) (h : DataW.trod enc Tryz.prog w base spare held n eBlk.ty cs = some y) (hf : Fits Tryz.prog eBlk.ty y.1) : ∃ x, eBlk.R (ByT w w.heap.size) cs x ∧ x.length + 4096 ≤ blim := by
 obtain ⟨A, n, c, l, rfl, hb, hz⟩ := in_by h hf
 exact ⟨l, ⟨_, rfl, ByT.of_by hb (Nat.le_refl _) (Nat.le_refl _)⟩, by have := hb.len; omega⟩
theorem cells_write : Tryz.prog.cellsOf 104 = 2 := by kernel_rfl
theorem cells_disk : Tryz.prog.cellsOf 27 = 2 := by kernel_rfl
theorem cells_blks : Tryz.prog.cellsOf 24 = 1 := by kernel_rfl
theorem cells_lats : Tryz.prog.cellsOf 25 = 1 := by kernel_rfl
theorem in_wr (n : Nat) (cs : List Value) (y : DataW H × List MemPlace) (h : DataW.trod enc Tryz.prog w base spare held n eWr.ty cs = some y) (hf : Fits Tryz.prog eWr.ty y.1) : ∃ x, eWr.R (ByT w w.heap.size) cs x ∧ x.2.length + 4096 ≤ blim := by
 obtain ⟨xs, m, _, rfl, hl, hlen, ht⟩ := DataW.trod_struct Tryz.underlying104 h
 have h0 := ht 0 _ rfl
 have h1 := ht 1 _ rfl
 rw [cells_write] at hl
 obtain ⟨y0, y1, rfl⟩ := len2 xs hlen
 obtain ⟨a, b, rfl⟩ := len2 cs hl
 simp only [List.getElem_toArray, List.getElem_cons_zero, List.getElem_cons_succ, cells_int, cells_bytes, List.drop_zero, List.drop_succ_cons, List.take_succ_cons, List.take_zero, List.getElem?_cons_zero, List.getElem?_cons_succ] at h0 h1
 obtain ⟨k, ek, hk⟩ := in_int h0
 obtain ⟨A, n, cp, l, es, hb, hz⟩ := in_by h1 (fits_field hf Tryz.underlying104 1 rfl rfl)
 simp only [List.cons.injEq, and_true] at ek es
 subst ek es
 exact ⟨(k, l), ⟨_, rfl, ByT.of_by hb (Nat.le_refl _) (Nat.le_refl _)⟩, by have := hb.len; simp only; omega⟩
theorem in_disk {fuel : Nat} {cs : List Value} {x : DataW H × List MemPlace} (h : DataW.trod enc Tryz.prog w base spare held fuel 27 cs = some x) (hf : Fits Tryz.prog 27 x.1) :
  ∃ a b d, cs = [a, b] ∧ DskV tD w w.heap.size (.agg #[a, b]) d := by
 obtain ⟨xs, m, _, rfl, hl, hlen, ht⟩ := DataW.trod_struct Tryz.underlying27 h
 have h0 := ht 0 _ rfl
 have h1 := ht 1 _ rfl
 rw [cells_disk] at hl
 obtain ⟨y0, y1, rfl⟩ := len2 xs hlen
 obtain ⟨a, b, rfl⟩ := len2 cs hl
 simp only [List.getElem_toArray, List.getElem_cons_zero, List.getElem_cons_succ, cells_blks, cells_lats, List.drop_zero, List.drop_succ_cons, List.take_succ_cons, List.take_zero, List.getElem?_cons_zero, List.getElem?_cons_succ] at h0 h1
 obtain ⟨v0, bs, e0, r0, _⟩ := in_row eBlk (T := tD) Tryz.underlying24 (by kernel_rfl) _ in_blk h0 (fits_field hf Tryz.underlying27 0 rfl rfl)
 obtain ⟨v1, ls, e1, r1, _⟩ := in_row eWr (T := tD) Tryz.underlying25 (by kernel_rfl) _ in_wr h1 (fits_field hf Tryz.underlying27 1 rfl rfl)
 simp only [List.cons.injEq, and_true] at e0 e1
 subst e0 e1
 exact ⟨_, _, ⟨bs, ls⟩, rfl, _, _, rfl, r0, r1⟩
end
end Go.Proofs.YtdmnmfnmaccmoaaGreatDoor
/- Walks: model.Wrong, model.Next and the document's. -/
namespace Go.Proofs.YtdmnmfnmaccmoaaGreatDoor
open Go Go.RowKit
theorem getD_all {p : Rec → Prop} {l : List Rec} (h : ∀ r ∈ l, p r) {a : Nat} (ha : a < l.length) : p (l.getD a rZero) := by
 rw [List.getD_eq_getElem?_getD, List.getElem?_eq_getElem ha]
 exact h _ (List.getElem_mem ha)
set_option maxRecDepth 100000 in
set_option maxHeartbeats 4000000 in
theorem mNext_v {T : List TypeId} {base : Nat} {u : Value} {l : List Rec} {w : World} (h : Row eRec T w base u l) (hr : ∀ r ∈ l, rOne r = true) :
  Calls Tryz.prog 68 #[u] w fun e w' => e = .returned (.int .i64 (mNext l)) ∧ Ext w w' := by
 obtain ⟨A, m, c, rfl, hc, hcm, HM⟩ := h.form
 have hr := Lib.hid hr
 unfold maxLen at hcm
 go_enter Tryz.func68, Tryz.ntmps68
 go_wp2_with fail
 go_loopw [3, 8] (fun t i wr => ∃ (a : Nat) (z : Int), a ≤ m ∧ i = .int .i64 a ∧ t = .int .i64 z ∧ Hid (z = mMax (l.take a)) ∧ Ext w wr) (fun _ i _ => m - (intOf i).toNat)
 case atStart => exact ⟨0, 0, by omega, rfl, rfl, Lib.hid rfl, Below.refl _ _⟩
 case round =>
  obtain ⟨a, z, ha, rfl, rfl, hz, hd⟩ := hrel
  by_cases hlt : a < m
  ·have e0 : (0 : Int) ≤ (a : Int) := by omega
   have e1 : (a : Int) < (m : Int) := by omega
   obtain ⟨b, o, u, rfl, hb, c0, c1, c2, c3, hu⟩ := (h.ext hd).rec_at hlt
   have hs := mMax_take l a (HM.out ▸ hlt)
   generalize l.getD a rZero = r at c0 c1 c2 hu hs
   obtain ⟨rk, ry, rv, rd⟩ := r
   simp only at c0 c1 c2 hu hs
   obtain ⟨A2, n2, c2', rfl, _, _⟩ := hu.form
   have hs := Lib.hid hs
   go_wp2_with fail
   refine ⟨⟨a + 1, _, by omega, rfl, rfl, Lib.hid ?_, ext_trans hd (ext_alloc _ _)⟩, ?_⟩
   ·rw [hs.out, ← hz.out]
   ·simp only [intOf]
    omega
  ·have hzz : z = mMax l := by rw [hz.out, List.take_of_length_le (by have := HM.out; omega)]
   have hbd := mMax_bd l hr.out
   rw [← hzz] at hbd
   have hzz := Lib.hid hzz
   go_wp2
   go_ret
   exact ⟨rfl, hd⟩
end Go.Proofs.YtdmnmfnmaccmoaaGreatDoor
/- Walks: the document's RightRecords; model.Get and the document's. -/
namespace Go.Proofs.YtdmnmfnmaccmoaaGreatDoor
open Go Go.RowKit
theorem ext_st {w wn : World} {o : Obj} (h : w.alloc o = wn) : Ext w wn := by subst h; exact ext_alloc _ _
theorem box_st {w wn : World} {t : TypeId} {cs : Array Value} (h : w.alloc (.cells cs t) = wn) : Box wn w.heap.size t cs := by subst h; exact Box.new _ _ _ rfl
theorem Box.four {w : World} {g : Nat} {t : TypeId} {a b c d : Value} (h : Box w g t #[a, b, c, d]) : w.cell? ⟨g, 0, none⟩ = some a ∧ w.cell? ⟨g, 1, none⟩ = some b ∧ w.cell? ⟨g, 2, none⟩ = some c ∧ w.cell? ⟨g, 3, none⟩ = some d := ⟨h.cell 0 rfl, h.cell 1 rfl, h.cell 2 rfl, h.cell 3 rfl⟩
theorem Box.put4 {w : World} {g : Nat} {t : TypeId} {a b c d x y z u : Value} (h : Box w g t #[a, b, c, d]) : Box ((((w.setCell ⟨g, 0, none⟩ x).setCell ⟨g, 1, none⟩ y).setCell ⟨g, 2, none⟩ z).setCell ⟨g, 3, none⟩ u) g t #[x, y, z, u] := (((h.set 0 x).set 1 y).set 2 z).set 3 u
set_option maxRecDepth 100000 in
set_option maxHeartbeats 4000000 in
theorem mGet_v {T : List TypeId} {base : Nat} {u : Value} {l : List Rec} {w : World} {key : Int} (h : Row eRec T w base u l) (hr : ∀ r ∈ l, rOne r = true) :
  Calls Tryz.prog 25 #[u, .int .i64 key] w fun e w' => ∃ v q, e = .returned (.tuple #[v, .int .i64 q]) ∧ Hid (q = (mGet l key).2) ∧ ByT w' w'.heap.size v (mGet l key).1 ∧ Ext w w' := by
 obtain ⟨A, m, c, rfl, hc, hcm, HM⟩ := h.form
 have Hr := Lib.hid hr
 clear hr
 unfold maxLen at hcm
 go_enter Tryz.func25, Tryz.ntmps25
 go_wp2_with fail
 obtain ⟨W, hW⟩ : ∃ W, W = w.alloc (.cells #[.int .i64 0, .int .i64 0, .int .i64 0, .slice none 0 0] 54) := ⟨_, rfl⟩
 rw [← hW]
 have b6 : Box W w.heap.size 54 #[.int .i64 0, .int .i64 0, .int .i64 0, .slice none 0 0] := by rw [hW]; exact Box.new _ _ _ rfl
 have hwW : Ext w W := by rw [hW]; exact ext_alloc _ _
 clear hW
 go_loopw [11] (fun i wr => ∃ (a : Nat) (xk xy xv : Int) (xd : List UInt8) (ux : Value), a ≤ m ∧ i = .int .i64 a ∧ Hid (⟨xk, xy, xv, xd⟩ = mLast (l.take a) key) ∧ Box wr w.heap.size 54 #[.int .i64 xk, .int .i64 xy, .int .i64 xv, ux] ∧ ByT w base ux xd ∧ Ext w wr) (fun i _ => m - (intOf i).toNat)
 case atStart => exact ⟨0, 0, 0, 0, [], _, by omega, rfl, rfl, b6, ByT.nil _ _, hwW⟩
 case round =>
  obtain ⟨a, xk, xy, xv, xd, ux, ha, rfl, hX, b6r, hux, hd⟩ := hrel
  obtain ⟨Ax, nx, cx, rfl, hyx, HNX⟩ := hux.form
  obtain ⟨m0, m1, m2, m3⟩ := b6r.four
  have hg := b6r.lt
  by_cases hlt : a < m
  ·have e0 : (0 : Int) ≤ (a : Int) := by omega
   have e1 : (a : Int) < (m : Int) := by omega
   obtain ⟨b, o, u, rfl, hb, c0, c1, c2, c3, hu⟩ := h.rec_at hlt
   have hs := mLast_take l a (HM.out ▸ hlt) key
   rw [← hX.out] at hs
   generalize l.getD a rZero = r at c0 c1 c2 hu hs
   obtain ⟨rk, ry, rv, rd⟩ := r
   simp only at c0 c1 c2 hu hs
   obtain ⟨A2, n2, c2', rfl, hy, _⟩ := hu.form
   have c0 := (hd.cell (p := ⟨b, o + a * 4, none⟩) hb).trans c0
   have c1 := (hd.cell (p := ⟨b, o + a * 4 + 1, none⟩) hb).trans c1
   have c2 := (hd.cell (p := ⟨b, o + a * 4 + 2, none⟩) hb).trans c2
   have c3 := (hd.cell (p := ⟨b, o + a * 4 + 3, none⟩) hb).trans c3
   have hs := Lib.hid hs
   clear hX
   have xz := b6r.free
   by_cases hk : ry = key
   ·subst hk
    by_cases hv : xv < rv
    ·have q : decide (xv < rv) = true := by simpa using hv
     go_wp2_with fail
     refine ⟨⟨a + 1, rk, ry, rv, rd, _, by omega, rfl, Lib.hid (by rw [hs.out, if_pos ⟨rfl, hv⟩]), b6r.put4.ext (ext_alloc _ _), hu, ext_trans ((((hd.setCell (Nat.le_refl _) _).setCell (Nat.le_refl _) _).setCell (Nat.le_refl _) _).setCell (Nat.le_refl _) _) (ext_alloc _ _)⟩, ?_⟩
     simp only [intOf]
     omega
    ·have q : decide (xv < rv) = false := by simpa using hv
     go_wp2_with fail
     refine ⟨⟨a + 1, xk, xy, xv, xd, _, by omega, rfl, Lib.hid (by rw [hs.out, if_neg (fun h => hv h.2)]), b6r.ext (ext_alloc _ _), hux, ext_trans hd (ext_alloc _ _)⟩, ?_⟩
     simp only [intOf]
     omega
   ·have q : (ry == key) = false := by simpa using hk
    go_wp2_with fail
    refine ⟨⟨a + 1, xk, xy, xv, xd, _, by omega, rfl, Lib.hid (by rw [hs.out, if_neg (fun h => hk h.1)]), b6r.ext (ext_alloc _ _), hux, ext_trans hd (ext_alloc _ _)⟩, ?_⟩
    simp only [intOf]
    omega
  ·have hX' := hX.out
   rw [List.take_of_length_le (by have := HM.out; omega)] at hX'
   have hm : mGet l key = if xk = 0 then ([], 6) else if xk = 3 then ([], 10) else (xd, 0) := by
    unfold mGet
    rw [← hX']
   have hxk := mLast_kind l Hr.out key
   have hx8 : xd.length ≤ 8 := by
    rcases mLast_right l Hr.out key with e | ⟨e, _⟩
    ·rw [← hX'] at e
     have := congrArg Rec.data e
     simp only at this
     rw [this]
     exact Nat.zero_le _
    ·rw [← hX'] at e
     exact (rOne_spec e).2.2.2.2.2.1
   rw [← hX'] at hxk
   simp only at hxk
   have HN8 : Hid (nx ≤ 8) := Lib.hid (by have := HNX.out; omega)
   have hmH := Lib.hid hm
   clear hm hX hX' hx8
   rcases hxk with ⟨k0, _⟩ | k2 | k3
   ·subst k0
    go_wp2_with fail
    go_ret2
    exact ⟨_, _, rfl, by rw [hmH.out]; rfl, by rw [hmH.out]; exact ByT.nil _ _, hd⟩
   ·subst k2
    go_wp2_with fail
    refine (clone_w _ (Sl.below hyx hd) hd.size (by rw [blim_def]; have := HN8.out; omega)).mono ?_
    rintro e5 w5 ⟨v5, rfl, o5, he5⟩
    go_wp2_with fail
    go_ret2
    exact ⟨_, _, rfl, by rw [hmH.out]; rfl, by rw [hmH.out]; exact ByT.of_own o5, ext_trans hd he5⟩
   ·subst k3
    go_wp2_with fail
    go_ret2
    exact ⟨_, _, rfl, by rw [hmH.out]; rfl, by rw [hmH.out]; exact ByT.nil _ _, hd⟩
end Go.Proofs.YtdmnmfnmaccmoaaGreatDoor
/- Walks: the record that a deed makes. -/
namespace Go.Proofs.YtdmnmfnmaccmoaaGreatDoor
open Go Go.RowKit
theorem put4_st {w wn : World} {g : Nat} {t : TypeId} {a b c d x y z u : Value} (k : Box w g t #[a, b, c, d]) (h : (((w.setCell ⟨g, 0, none⟩ x).setCell ⟨g, 1, none⟩ y).setCell ⟨g, 2, none⟩ z).setCell ⟨g, 3, none⟩ u = wn) : Box wn g t #[x, y, z, u] := by
 subst h
 exact k.put4
theorem oth4_st {w wn : World} {g g' : Nat} {t : TypeId} {cs : Array Value} {x y z u : Value} (k : Box w g t cs) (hne : g ≠ g') (h : (((w.setCell ⟨g', 0, none⟩ x).setCell ⟨g', 1, none⟩ y).setCell ⟨g', 2, none⟩ z).setCell ⟨g', 3, none⟩ u = wn) : Box wn g t cs := by
 subst h
 exact (((k.setOther hne _).setOther hne _).setOther hne _).setOther hne _
theorem own4_st {w wn : World} {g' rb n : Nat} {v : Value} {xs : List Value} {x y z u : Value} {cs : Array Value} (k : Box w g' 54 cs) (o : w.ownsRow rb 5 1 v n xs) (h : (((w.setCell ⟨g', 0, none⟩ x).setCell ⟨g', 1, none⟩ y).setCell ⟨g', 2, none⟩ z).setCell ⟨g', 3, none⟩ u = wn) : wn.ownsRow rb 5 1 v n xs := by
 subst h
 have kk := k.kd
 exact own_kept (T := []) (base := 0) o (by decide) (by (repeat (with_reducible (first | assumption | exact Kept.refl _ _ _ | (apply Kept.setK; rotate_left; (repeat (first | assumption | apply Kd.set | apply Kd.alloc | apply Kd.drew)); decide; omega) | refine Kept.allocK ?_ _ | refine Kept.drewK ?_))))
theorem ext4_st {w0 w wn : World} {g' : Nat} {x y z u : Value} (hx : Ext w0 w) (hg : w0.heap.size ≤ g') (h : (((w.setCell ⟨g', 0, none⟩ x).setCell ⟨g', 1, none⟩ y).setCell ⟨g', 2, none⟩ z).setCell ⟨g', 3, none⟩ u = wn) : Ext w0 wn := by
 subst h
 exact (((hx.setCell hg _).setCell hg _).setCell hg _).setCell hg _
set_option maxRecDepth 100000 in
set_option maxHeartbeats 4000000 in
theorem mMade_w {A : Option Addr} {n c B : Nat} {k y v ver : Int} {b : List UInt8} (w : World) (h : By w B A n c b) (hB : B ≤ w.heap.size) (hn : n ≤ blim) (hk : k = 1 ∨ k = 2) :
  Calls Tryz.prog 43 #[.agg #[.int .i64 k, .int .i64 y, .int .i64 v, .slice A n c], .int .i64 ver] w fun e w' => ∃ r, e = .returned r ∧ OwnRec w w' r (mMade ⟨k, y, v, b⟩ ver) ∧ Ext w w' := by
 have hl := h.len
 subst hl
 rcases hk with rfl | rfl
 ·skip
  go_enter Tryz.func43, Tryz.ntmps43
  go_wp2_with fail
  obtain ⟨W, hW⟩ : ∃ W, W = (w.alloc (.cells #[.int .i64 1, .int .i64 y, .int .i64 v, .slice A b.length c] 34)).alloc (.cells #[.int .i64 0, .int .i64 0, .int .i64 0, .slice none 0 0] 54) := ⟨_, rfl⟩
  rw [← hW]
  have b2 : Box W w.heap.size 34 #[.int .i64 1, .int .i64 y, .int .i64 v, .slice A b.length c] := by rw [hW]; exact (Box.new _ _ _ rfl).alloc _
  have b4 : Box W (w.heap.size + 1) 54 #[.int .i64 0, .int .i64 0, .int .i64 0, .slice none 0 0] := by rw [hW]; exact Box.new _ _ _ (size_alloc _ _).symm
  have hwW : Ext w W := by rw [hW]; exact ext_trans (ext_alloc _ _) (ext_alloc _ _)
  clear hW
  refine wp_region_below W.heap.size 9 [0, 1, 2, 3, 4, 6] true rfl (by kernel_rfl) (by kernel_rfl) ?_
  have hx2 : Ext W W.drew := (Below.refl _ _).drew
  have hz : W.heap.size ≤ W.drew.heap.size := hx2.size
  have hg2 : w.heap.size < W.heap.size := b2.lt
  have b2 := b2.ext hx2
  have b4 := b4.ext hx2
  have hx := ext_trans hwW hx2
  generalize W.drew = D at hz hx hx2 b2 b4 ⊢
  apply mixF 0 (by kernel_rfl) (by rfl) (by rfl)
  ·(intro w' hx; obtain ⟨x0, x1, x2, x3⟩ := (b2.below hx hg2).four; go_simp <;> with_reducible rfl)
  simp only [pA, pB, pC, pD]
  apply mixF 1 (by kernel_rfl) (by rfl) (by rfl)
  ·(intro w' hx; obtain ⟨x0, x1, x2, x3⟩ := (b2.below hx hg2).four; go_simp <;> with_reducible rfl)
  simp only [pA, pB, pC, pD]
  apply mixF 2 (by kernel_rfl) (by rfl) (by rfl)
  ·(intro w' hx; obtain ⟨x0, x1, x2, x3⟩ := (b2.below hx hg2).four; go_simp <;> with_reducible rfl)
  simp only [pA, pB, pC, pD]
  apply mixF 3 (by kernel_rfl) (by rfl) (by rfl)
  ·(intro w' hx; obtain ⟨x0, x1, x2, x3⟩ := (b2.below hx hg2).four; go_simp <;> with_reducible rfl)
  simp only [pA, pB, pC, pD]
  apply mixF 4 (by kernel_rfl) (by rfl) (by rfl)
  ·(intro w' hx; obtain ⟨x0, x1, x2, x3⟩ := (b2.below hx hg2).four; go_simp <;> with_reducible rfl)
  simp only [pA, pB, pC, pD]
  refine mixS2 5 7 (by kernel_rfl) (by kernel_rfl) (by rfl) (by rfl) (by rfl) (by rfl) (fun K hK => ?_) (fun K hK => ?_)
  ·skip
   go_wp2_with (go_at_call 50; refine (clone_w _ (Sl.below h (hx.mono hB)) (Nat.le_trans hB hx.size) hn).mono ?_; rintro e wn ⟨v1, rfl, own1, he⟩; obtain ⟨A1, c1, rfl, hs1⟩ := own_shape own1)
   refine hK.out _ _ (he.mono hz) ?_
   clear hK K
   try simp only [pA, pB, pC, pD]
   have own1 := own_more own1 hx.size
   have hz := Nat.le_trans hz he.size
   have hx2 := ext_trans hx2 he
   have hx := ext_trans hx he
   have b2 := b2.ext he
   have b4 := b4.ext he
   try (have b5 := b5.ext he)
   try (have own1 := own_kept (T := []) (base := 0) own1 (by decide) (.ext he))
   clear he
   apply mixF 6 (by kernel_rfl) (by rfl) (by rfl)
   ·(intro w' hx; go_simp <;> with_reducible rfl)
   simp only [pA, pB, pC, pD]
   refine mixS 7 (by kernel_rfl) (by kernel_rfl) (by rfl) (by rfl) (fun K hK => ?_)
   go_wp2
   refine hK.out _ _ ((ext_alloc _ _).mono hz) ?_
   clear hK K
   try simp only [pA, pB, pC, pD]
   generalize hwn : World.alloc _ (Obj.cells #[.int .i64 0, .int .i64 0, .int .i64 0, .slice none 0 0] 54) = wn
   have he := ext_st hwn
   have b5 := box_st hwn
   have h5 := hz
   have h54 := Nat.ne_of_lt b4.lt
   have h52 := Nat.ne_of_lt b2.lt
   clear hwn
   have hz := Nat.le_trans hz he.size
   have hx2 := ext_trans hx2 he
   have hx := ext_trans hx he
   have b2 := b2.ext he
   have b4 := b4.ext he
   try (have b5 := b5.ext he)
   try (have own1 := own_kept (T := []) (base := 0) own1 (by decide) (.ext he))
   clear he
   refine mixLast 8 (by kernel_rfl) (by kernel_rfl) (by kernel_rfl) (by rfl) (by rfl) (fun K hK => ?_)
   have hK' := Lib.hid hK
   clear hK
   obtain ⟨x0, x1, x2, x3⟩ := b5.four
   have xz := b5.free
   obtain ⟨y0, y1, y2, y3⟩ := b4.four
   have yz := b4.free
   go_wp2
   refine hK'.out _ _ ?_
   clear hK' K
   generalize hwm : World.setCell (World.setCell (World.setCell (World.setCell _ _ _) _ _) _ _) _ _ = wm
   have B5 := put4_st b5 hwm
   have B4 := oth4_st b4 h54 hwm
   have B2 := oth4_st b2 h52 hwm
   have own2 := own4_st b5 own1 hwm
   have h05 := Nat.le_of_lt (Nat.lt_of_lt_of_le hg2 h5)
   have hxm := ext4_st hx h05 hwm
   clear hwm b5 b4 b2 own1 x0 x1 x2 x3 xz y0 y1 y2 y3 yz
   obtain ⟨x0, x1, x2, x3⟩ := B5.four
   have xz := B5.free
   obtain ⟨y0, y1, y2, y3⟩ := B4.four
   have yz := B4.free
   obtain ⟨z0, z1, z2, z3⟩ := B2.four
   have k5 := B5.kd
   have k4 := B4.kd
   refine NoPanic.normal ?_
   go_wp2_with fail
   ((try simp only [Exit.inBlock, Exit.then]); refine bodyPost_ret (v := ?_) ?resultOf rfl ?_; case resultOf => (rw [results_cell1 rfl]; go_simp; rfl))
   exact ⟨_, rfl, ⟨_, _, rfl, own_kept (T := []) (base := 0) own2 (by decide) (by (repeat (with_reducible (first | assumption | exact Kept.refl _ _ _ | (apply Kept.setK; rotate_left; (repeat (first | assumption | apply Kd.set | apply Kd.alloc | apply Kd.drew)); decide; omega) | refine Kept.allocK ?_ _ | refine Kept.drewK ?_))))⟩, by (repeat (with_reducible (first | assumption | exact Below.refl _ _ | refine Below.setCell ?_ (by simp <;> omega) _ | refine Below.alloc ?_ (by simp <;> omega) _ | refine Below.drew ?_ | refine below_drewN ?_ _)))⟩
  ·skip
   go_wp2
   refine hK.out _ _ ((ext_alloc _ _).mono hz) ?_
   clear hK K
   try simp only [pA, pB, pC, pD]
   generalize hwn : World.alloc _ (Obj.cells #[.int .i64 0, .int .i64 0, .int .i64 0, .slice none 0 0] 54) = wn
   have he := ext_st hwn
   have b5 := box_st hwn
   have h5 := hz
   have h54 := Nat.ne_of_lt b4.lt
   have h52 := Nat.ne_of_lt b2.lt
   clear hwn
   have hz := Nat.le_trans hz he.size
   have hx2 := ext_trans hx2 he
   have hx := ext_trans hx he
   have b2 := b2.ext he
   have b4 := b4.ext he
   try (have b5 := b5.ext he)
   try (have own1 := own_kept (T := []) (base := 0) own1 (by decide) (.ext he))
   clear he
   refine mixS 5 (by kernel_rfl) (by kernel_rfl) (by rfl) (by rfl) (fun K hK => ?_)
   go_wp2_with (go_at_call 50; refine (clone_w _ (Sl.below h (hx.mono hB)) (Nat.le_trans hB hx.size) hn).mono ?_; rintro e wn ⟨v1, rfl, own1, he⟩; obtain ⟨A1, c1, rfl, hs1⟩ := own_shape own1)
   refine hK.out _ _ (he.mono hz) ?_
   clear hK K
   try simp only [pA, pB, pC, pD]
   have own1 := own_more own1 hx.size
   have hz := Nat.le_trans hz he.size
   have hx2 := ext_trans hx2 he
   have hx := ext_trans hx he
   have b2 := b2.ext he
   have b4 := b4.ext he
   try (have b5 := b5.ext he)
   try (have own1 := own_kept (T := []) (base := 0) own1 (by decide) (.ext he))
   clear he
   apply mixF 6 (by kernel_rfl) (by rfl) (by rfl)
   ·(intro w' hx; go_simp <;> with_reducible rfl)
   simp only [pA, pB, pC, pD]
   refine mixLast 8 (by kernel_rfl) (by kernel_rfl) (by kernel_rfl) (by rfl) (by rfl) (fun K hK => ?_)
   have hK' := Lib.hid hK
   clear hK
   obtain ⟨x0, x1, x2, x3⟩ := b5.four
   have xz := b5.free
   obtain ⟨y0, y1, y2, y3⟩ := b4.four
   have yz := b4.free
   go_wp2
   refine hK'.out _ _ ?_
   clear hK' K
   generalize hwm : World.setCell (World.setCell (World.setCell (World.setCell _ _ _) _ _) _ _) _ _ = wm
   have B5 := put4_st b5 hwm
   have B4 := oth4_st b4 h54 hwm
   have B2 := oth4_st b2 h52 hwm
   have own2 := own4_st b5 own1 hwm
   have h05 := Nat.le_of_lt (Nat.lt_of_lt_of_le hg2 h5)
   have hxm := ext4_st hx h05 hwm
   clear hwm b5 b4 b2 own1 x0 x1 x2 x3 xz y0 y1 y2 y3 yz
   obtain ⟨x0, x1, x2, x3⟩ := B5.four
   have xz := B5.free
   obtain ⟨y0, y1, y2, y3⟩ := B4.four
   have yz := B4.free
   obtain ⟨z0, z1, z2, z3⟩ := B2.four
   have k5 := B5.kd
   have k4 := B4.kd
   refine NoPanic.normal ?_
   go_wp2_with fail
   ((try simp only [Exit.inBlock, Exit.then]); refine bodyPost_ret (v := ?_) ?resultOf rfl ?_; case resultOf => (rw [results_cell1 rfl]; go_simp; rfl))
   exact ⟨_, rfl, ⟨_, _, rfl, own_kept (T := []) (base := 0) own2 (by decide) (by (repeat (with_reducible (first | assumption | exact Kept.refl _ _ _ | (apply Kept.setK; rotate_left; (repeat (first | assumption | apply Kd.set | apply Kd.alloc | apply Kd.drew)); decide; omega) | refine Kept.allocK ?_ _ | refine Kept.drewK ?_))))⟩, by (repeat (with_reducible (first | assumption | exact Below.refl _ _ | refine Below.setCell ?_ (by simp <;> omega) _ | refine Below.alloc ?_ (by simp <;> omega) _ | refine Below.drew ?_ | refine below_drewN ?_ _)))⟩
 ·skip
  go_enter Tryz.func43, Tryz.ntmps43
  go_wp2_with fail
  obtain ⟨W, hW⟩ : ∃ W, W = (w.alloc (.cells #[.int .i64 2, .int .i64 y, .int .i64 v, .slice A b.length c] 34)).alloc (.cells #[.int .i64 0, .int .i64 0, .int .i64 0, .slice none 0 0] 54) := ⟨_, rfl⟩
  rw [← hW]
  have b2 : Box W w.heap.size 34 #[.int .i64 2, .int .i64 y, .int .i64 v, .slice A b.length c] := by rw [hW]; exact (Box.new _ _ _ rfl).alloc _
  have b4 : Box W (w.heap.size + 1) 54 #[.int .i64 0, .int .i64 0, .int .i64 0, .slice none 0 0] := by rw [hW]; exact Box.new _ _ _ (size_alloc _ _).symm
  have hwW : Ext w W := by rw [hW]; exact ext_trans (ext_alloc _ _) (ext_alloc _ _)
  clear hW
  refine wp_region_below W.heap.size 9 [0, 1, 2, 3, 4, 6] true rfl (by kernel_rfl) (by kernel_rfl) ?_
  have hx2 : Ext W W.drew := (Below.refl _ _).drew
  have hz : W.heap.size ≤ W.drew.heap.size := hx2.size
  have hg2 : w.heap.size < W.heap.size := b2.lt
  have b2 := b2.ext hx2
  have b4 := b4.ext hx2
  have hx := ext_trans hwW hx2
  generalize W.drew = D at hz hx hx2 b2 b4 ⊢
  apply mixF 0 (by kernel_rfl) (by rfl) (by rfl)
  ·(intro w' hx; obtain ⟨x0, x1, x2, x3⟩ := (b2.below hx hg2).four; go_simp <;> with_reducible rfl)
  simp only [pA, pB, pC, pD]
  apply mixF 1 (by kernel_rfl) (by rfl) (by rfl)
  ·(intro w' hx; obtain ⟨x0, x1, x2, x3⟩ := (b2.below hx hg2).four; go_simp <;> with_reducible rfl)
  simp only [pA, pB, pC, pD]
  apply mixF 2 (by kernel_rfl) (by rfl) (by rfl)
  ·(intro w' hx; obtain ⟨x0, x1, x2, x3⟩ := (b2.below hx hg2).four; go_simp <;> with_reducible rfl)
  simp only [pA, pB, pC, pD]
  apply mixF 3 (by kernel_rfl) (by rfl) (by rfl)
  ·(intro w' hx; obtain ⟨x0, x1, x2, x3⟩ := (b2.below hx hg2).four; go_simp <;> with_reducible rfl)
  simp only [pA, pB, pC, pD]
  apply mixF 4 (by kernel_rfl) (by rfl) (by rfl)
  ·(intro w' hx; obtain ⟨x0, x1, x2, x3⟩ := (b2.below hx hg2).four; go_simp <;> with_reducible rfl)
  simp only [pA, pB, pC, pD]
  refine mixS2 5 7 (by kernel_rfl) (by kernel_rfl) (by rfl) (by rfl) (by rfl) (by rfl) (fun K hK => ?_) (fun K hK => ?_)
  ·skip
   go_wp2_with (go_at_call 50; refine (clone_w _ (Sl.below h (hx.mono hB)) (Nat.le_trans hB hx.size) hn).mono ?_; rintro e wn ⟨v1, rfl, own1, he⟩; obtain ⟨A1, c1, rfl, hs1⟩ := own_shape own1)
   refine hK.out _ _ (he.mono hz) ?_
   clear hK K
   try simp only [pA, pB, pC, pD]
   have own1 := own_more own1 hx.size
   have hz := Nat.le_trans hz he.size
   have hx2 := ext_trans hx2 he
   have hx := ext_trans hx he
   have b2 := b2.ext he
   have b4 := b4.ext he
   try (have b5 := b5.ext he)
   try (have own1 := own_kept (T := []) (base := 0) own1 (by decide) (.ext he))
   clear he
   apply mixF 6 (by kernel_rfl) (by rfl) (by rfl)
   ·(intro w' hx; go_simp <;> with_reducible rfl)
   simp only [pA, pB, pC, pD]
   refine mixS 7 (by kernel_rfl) (by kernel_rfl) (by rfl) (by rfl) (fun K hK => ?_)
   go_wp2
   refine hK.out _ _ ((ext_alloc _ _).mono hz) ?_
   clear hK K
   try simp only [pA, pB, pC, pD]
   generalize hwn : World.alloc _ (Obj.cells #[.int .i64 0, .int .i64 0, .int .i64 0, .slice none 0 0] 54) = wn
   have he := ext_st hwn
   have b5 := box_st hwn
   have h5 := hz
   have h54 := Nat.ne_of_lt b4.lt
   have h52 := Nat.ne_of_lt b2.lt
   clear hwn
   have hz := Nat.le_trans hz he.size
   have hx2 := ext_trans hx2 he
   have hx := ext_trans hx he
   have b2 := b2.ext he
   have b4 := b4.ext he
   try (have b5 := b5.ext he)
   try (have own1 := own_kept (T := []) (base := 0) own1 (by decide) (.ext he))
   clear he
   refine mixLast 8 (by kernel_rfl) (by kernel_rfl) (by kernel_rfl) (by rfl) (by rfl) (fun K hK => ?_)
   have hK' := Lib.hid hK
   clear hK
   obtain ⟨x0, x1, x2, x3⟩ := b5.four
   have xz := b5.free
   obtain ⟨y0, y1, y2, y3⟩ := b4.four
   have yz := b4.free
   go_wp2
   refine hK'.out _ _ ?_
   clear hK' K
   generalize hwm : World.setCell (World.setCell (World.setCell (World.setCell _ _ _) _ _) _ _) _ _ = wm
   have B5 := put4_st b5 hwm
   have B4 := oth4_st b4 h54 hwm
   have B2 := oth4_st b2 h52 hwm
   have own2 := own4_st b5 own1 hwm
   have h05 := Nat.le_of_lt (Nat.lt_of_lt_of_le hg2 h5)
   have hxm := ext4_st hx h05 hwm
   clear hwm b5 b4 b2 own1 x0 x1 x2 x3 xz y0 y1 y2 y3 yz
   obtain ⟨x0, x1, x2, x3⟩ := B5.four
   have xz := B5.free
   obtain ⟨y0, y1, y2, y3⟩ := B4.four
   have yz := B4.free
   obtain ⟨z0, z1, z2, z3⟩ := B2.four
   have k5 := B5.kd
   have k4 := B4.kd
   refine NoPanic.normal ?_
   go_wp2_with fail
   ((try simp only [Exit.inBlock, Exit.then]); refine bodyPost_ret (v := ?_) ?resultOf rfl ?_; case resultOf => (rw [results_cell1 rfl]; go_simp; rfl))
   exact ⟨_, rfl, ⟨_, _, rfl, own_kept (T := []) (base := 0) own2 (by decide) (by (repeat (with_reducible (first | assumption | exact Kept.refl _ _ _ | (apply Kept.setK; rotate_left; (repeat (first | assumption | apply Kd.set | apply Kd.alloc | apply Kd.drew)); decide; omega) | refine Kept.allocK ?_ _ | refine Kept.drewK ?_))))⟩, by (repeat (with_reducible (first | assumption | exact Below.refl _ _ | refine Below.setCell ?_ (by simp <;> omega) _ | refine Below.alloc ?_ (by simp <;> omega) _ | refine Below.drew ?_ | refine below_drewN ?_ _)))⟩
  ·skip
   go_wp2
   refine hK.out _ _ ((ext_alloc _ _).mono hz) ?_
   clear hK K
   try simp only [pA, pB, pC, pD]
   generalize hwn : World.alloc _ (Obj.cells #[.int .i64 0, .int .i64 0, .int .i64 0, .slice none 0 0] 54) = wn
   have he := ext_st hwn
   have b5 := box_st hwn
   have h5 := hz
   have h54 := Nat.ne_of_lt b4.lt
   have h52 := Nat.ne_of_lt b2.lt
   clear hwn
   have hz := Nat.le_trans hz he.size
   have hx2 := ext_trans hx2 he
   have hx := ext_trans hx he
   have b2 := b2.ext he
   have b4 := b4.ext he
   try (have b5 := b5.ext he)
   try (have own1 := own_kept (T := []) (base := 0) own1 (by decide) (.ext he))
   clear he
   refine mixS 5 (by kernel_rfl) (by kernel_rfl) (by rfl) (by rfl) (fun K hK => ?_)
   go_wp2_with (go_at_call 50; refine (clone_w _ (Sl.below h (hx.mono hB)) (Nat.le_trans hB hx.size) hn).mono ?_; rintro e wn ⟨v1, rfl, own1, he⟩; obtain ⟨A1, c1, rfl, hs1⟩ := own_shape own1)
   refine hK.out _ _ (he.mono hz) ?_
   clear hK K
   try simp only [pA, pB, pC, pD]
   have own1 := own_more own1 hx.size
   have hz := Nat.le_trans hz he.size
   have hx2 := ext_trans hx2 he
   have hx := ext_trans hx he
   have b2 := b2.ext he
   have b4 := b4.ext he
   try (have b5 := b5.ext he)
   try (have own1 := own_kept (T := []) (base := 0) own1 (by decide) (.ext he))
   clear he
   apply mixF 6 (by kernel_rfl) (by rfl) (by rfl)
   ·(intro w' hx; go_simp <;> with_reducible rfl)
   simp only [pA, pB, pC, pD]
   refine mixLast 8 (by kernel_rfl) (by kernel_rfl) (by kernel_rfl) (by rfl) (by rfl) (fun K hK => ?_)
   have hK' := Lib.hid hK
   clear hK
   obtain ⟨x0, x1, x2, x3⟩ := b5.four
   have xz := b5.free
   obtain ⟨y0, y1, y2, y3⟩ := b4.four
   have yz := b4.free
   go_wp2
   refine hK'.out _ _ ?_
   clear hK' K
   generalize hwm : World.setCell (World.setCell (World.setCell (World.setCell _ _ _) _ _) _ _) _ _ = wm
   have B5 := put4_st b5 hwm
   have B4 := oth4_st b4 h54 hwm
   have B2 := oth4_st b2 h52 hwm
   have own2 := own4_st b5 own1 hwm
   have h05 := Nat.le_of_lt (Nat.lt_of_lt_of_le hg2 h5)
   have hxm := ext4_st hx h05 hwm
   clear hwm b5 b4 b2 own1 x0 x1 x2 x3 xz y0 y1 y2 y3 yz
   obtain ⟨x0, x1, x2, x3⟩ := B5.four
   have xz := B5.free
   obtain ⟨y0, y1, y2, y3⟩ := B4.four
   have yz := B4.free
   obtain ⟨z0, z1, z2, z3⟩ := B2.four
   have k5 := B5.kd
   have k4 := B4.kd
   refine NoPanic.normal ?_
   go_wp2_with fail
   ((try simp only [Exit.inBlock, Exit.then]); refine bodyPost_ret (v := ?_) ?resultOf rfl ?_; case resultOf => (rw [results_cell1 rfl]; go_simp; rfl))
   exact ⟨_, rfl, ⟨_, _, rfl, own_kept (T := []) (base := 0) own2 (by decide) (by (repeat (with_reducible (first | assumption | exact Kept.refl _ _ _ | (apply Kept.setK; rotate_left; (repeat (first | assumption | apply Kd.set | apply Kd.alloc | apply Kd.drew)); decide; omega) | refine Kept.allocK ?_ _ | refine Kept.drewK ?_))))⟩, by (repeat (with_reducible (first | assumption | exact Below.refl _ _ | refine Below.setCell ?_ (by simp <;> omega) _ | refine Below.alloc ?_ (by simp <;> omega) _ | refine Below.drew ?_ | refine below_drewN ?_ _)))⟩
end Go.Proofs.YtdmnmfnmaccmoaaGreatDoor
/- Walks: slices.Clone of records. -/
namespace Go.Proofs.YtdmnmfnmaccmoaaGreatDoor
open Go Go.RowKit
set_option maxRecDepth 100000 in
set_option maxHeartbeats 4000000 in
theorem recClone_v {T : List TypeId} {base : Nat} {u : Value} {l : List Rec} {w : World} (h : Row eRec T w base u l) (hbase : base ≤ w.heap.size) (hl : l.length ≤ 4096) :
  Calls Tryz.prog 64 #[u] w fun e w' => ∃ v, e = .returned v ∧ OwnRow eRec w' w.heap.size base v l ∧ Ext w w' := by
 obtain ⟨A, m, c, rfl, hc, hcm, HM⟩ := h.form
 have qT : ∀ (w : World) (a : Option Addr) (n c n' c' : Nat), (binOp .eql 46 (.slice a n c) (.slice none n' c')).run Tryz.prog w = .ok (.bool a.isNone) w := fun w a n c n' c' => Lib.run_eql_slice_nil w _ _ a n c n' c' Tryz.underlying46
 cases A with
 | none =>
  have hm0 : m = 0 := by
   rcases Nat.eq_zero_or_pos m with h0 | h0
   ·exact h0
   ·obtain ⟨b, o, u, e, _⟩ := h.rec_at h0
    cases e
  subst hm0
  have hl0 : l = [] := List.eq_nil_of_length_eq_zero HM.out.symm
  subst hl0
  go_enter Tryz.func64, Tryz.ntmps64
  go_wp2_with fail
  go_ret
  exact ⟨_, rfl, OwnRow.nil _ _ _ _, Below.refl _ _⟩
 | some ad =>
  have ho0 := OwnRow.empty eRec w (base := base) (Nat.le_refl _)
  have hb0 : Row eRec T (w.alloc (.cells #[] eRec.ty)) base (.slice (some ad) m c) l := h.ext (ext_alloc _ _)
  have hA1 : Hid (([] : List Rec).length + l.length ≤ lim) := Lib.hid (by rw [lim_def]; simp only [List.length_nil]; omega)
  have hA3 : w.heap.size ≤ (w.alloc (.cells #[] eRec.ty)).heap.size := by rw [size_alloc]; omega
  go_enter Tryz.func64, Tryz.ntmps64
  go_wp2_with (at_builtin; (refine wpal_rec rfl (.tmp 5) (.tmp 6) rfl rfl ho0 rfl hb0 hA1.out hA3 hbase ?_; intro v1 w1 own1 hg1 hb1))
  go_ret
  rw [List.nil_append] at own1
  exact ⟨_, rfl, own1, (ext_alloc _ _).trans hb1⟩
end Go.Proofs.YtdmnmfnmaccmoaaGreatDoor
/- Walks: slices.IndexFunc of records, at any function value that asks and turns nothing. -/
namespace Go.Proofs.YtdmnmfnmaccmoaaGreatDoor
open Go Go.RowKit
theorem getD_at {l : List Rec} {a : Nat} (ha : a < l.length) : l.getD a rZero = l[a] := by
 rw [List.getD_eq_getElem?_getD, List.getElem?_eq_getElem ha]
 rfl
theorem idx_hit {l : List Rec} {p : Rec → Bool} {a : Nat} (ha : a < l.length) (h : ∀ j, j < a → p (l.getD j rZero) = false) (h1 : p (l.getD a rZero) = true) : l.findIdx p = a := by
 rw [List.findIdx_eq ha]
 refine ⟨by rw [← getD_at ha]; exact h1, fun j hj => ?_⟩
 rw [← getD_at (by omega)]
 exact h j hj
theorem idx_none {l : List Rec} {p : Rec → Bool} (h : ∀ j, j < l.length → p (l.getD j rZero) = false) : l.findIdx p = l.length := by
 rw [List.findIdx_eq_length]
 intro x hx
 obtain ⟨j, hj, rfl⟩ := List.getElem_of_mem hx
 rw [← getD_at hj]
 exact h j hj
def idxInt (l : List Rec) (p : Rec → Bool) : Int := if l.findIdx p < l.length then ((l.findIdx p : Nat) : Int) else -1
def Asks (w : World) (g : Nat) (lb : Array Value) (l : List Rec) (p : Rec → Bool) : Prop :=
 ∀ (W : World) (r : Rec) (A : Option Addr) (n c : Nat), Ext w W → r ∈ l → By W W.heap.size A n c r.data →
  Calls Tryz.prog g (#[.agg #[.int .i64 r.kind, .int .i64 r.key, .int .i64 r.ver, .slice A n c]] ++ lb) W fun e w' => e = .returned (.bool (p r)) ∧ Ext W w'
set_option maxRecDepth 100000 in
set_option maxHeartbeats 4000000 in
theorem recIndex_v {T : List TypeId} {base : Nat} {u : Value} {l : List Rec} {w : World} {g : Nat} {lb : Array Value} {p : Rec → Bool} (eg : ∀ args w, (callFunc g args).run Tryz.prog w = .ok (.enter g args) w)
  (h : Row eRec T w base u l) (hp : Asks w g lb l p) :
  Calls Tryz.prog 65 #[u, .func (.func g) #[] lb] w fun e w' => ∃ z, e = .returned (.int .i64 z) ∧ Hid (z = idxInt l p) ∧ Ext w w' := by
 obtain ⟨A, m, c, rfl, hc, hcm, HM⟩ := h.form
 have HP := Lib.hid hp
 clear hp
 unfold maxLen at hcm
 go_enter Tryz.func65, Tryz.ntmps65
 go_wp2_with fail
 go_loopw [5, 8] (fun _ i wr => ∃ (a : Nat), a ≤ m ∧ i = .int .i64 a ∧ Hid (∀ j, j < a → p (l.getD j rZero) = false) ∧ Ext w wr) (fun _ i _ => m - (intOf i).toNat)
 case atStart => exact ⟨0, by omega, rfl, Lib.hid (fun j hj => by omega), Below.refl _ _⟩
 case round =>
  obtain ⟨a, ha, rfl, hF, hd⟩ := hrel
  by_cases hlt : a < m
  ·have e0 : (0 : Int) ≤ (a : Int) := by omega
   have e1 : (a : Int) < (m : Int) := by omega
   obtain ⟨b, o, u, rfl, hb, c0, c1, c2, c3, hu⟩ := (h.ext hd).rec_at hlt
   have hal : a < l.length := HM.out ▸ hlt
   have hmem := getD_all (p := (· ∈ l)) (fun r hr => hr) hal
   have hit := fun h1 => Lib.hid (idx_hit hal hF.out h1)
   have miss : p (l.getD a rZero) = false → Hid (∀ j, j < a + 1 → p (l.getD j rZero) = false) := by
    intro h1 j hj
    by_cases hja : j < a
    ·exact hF.out j hja
    ·have : j = a := by omega
     rw [this]
     exact h1
   generalize l.getD a rZero = r at c0 c1 c2 hu hmem hit miss
   obtain ⟨A2, n2, c2', rfl, hy, _⟩ := hu.form
   have hit := Lib.hid hit
   have miss := Lib.hid miss
   have hmem := Lib.hid hmem
   have hal := Lib.hid hal
   go_wp2_with (fail)
   refine (HP.out wr r A2 n2 c2' hd hmem.out hy).mono ?_
   rintro e9 w9 ⟨rfl, he9⟩
   cases hq : p r with
   | true =>
    have hi := hit.out hq
    clear hit miss hmem hq
    go_wp2_with fail
    go_ret
    exact ⟨_, rfl, Lib.hid (by unfold idxInt; rw [hi.out, if_pos hal.out]), ext_trans hd he9⟩
   | false =>
    have hm := miss.out hq
    clear hit miss hmem hq
    go_wp2_with fail
    refine ⟨⟨a + 1, by omega, rfl, hm, ext_trans hd he9⟩, ?_⟩
    simp only [intOf]
    omega
  ·have hno := Lib.hid (idx_none (p := p) (l := l) (fun j hj => hF.out j (by have := HM.out; omega)))
   go_wp2_with fail
   go_ret
   exact ⟨_, rfl, Lib.hid (by unfold idxInt; rw [hno.out, if_neg (by omega)]), hd⟩
end Go.Proofs.YtdmnmfnmaccmoaaGreatDoor
/- Walks: slices.ContainsFunc of records; the model's function literals; model.Same. -/
namespace Go.Proofs.YtdmnmfnmaccmoaaGreatDoor
open Go Go.RowKit
theorem idx_any (l : List Rec) (p : Rec → Bool) : decide ((0 : Int) ≤ idxInt l p) = l.any p := by
 unfold idxInt
 by_cases h : l.findIdx p < l.length
 ·rw [if_pos h]
  have h1 : l.any p = true := by
   rw [List.any_eq_true]
   exact List.findIdx_lt_length.1 h
  rw [h1]
  exact decide_eq_true (by omega)
 ·rw [if_neg h]
  have h1 : l.any p = false := by
   cases ha : l.any p with
   | false => rfl
   | true =>
    rw [List.any_eq_true] at ha
    exact absurd (List.findIdx_lt_length.2 ha) h
  rw [h1]
  rfl
set_option maxRecDepth 100000 in
set_option maxHeartbeats 4000000 in
theorem recHas_v {T : List TypeId} {base : Nat} {u : Value} {l : List Rec} {w : World} {g : Nat} {lb : Array Value} {p : Rec → Bool} (eg : ∀ args w, (callFunc g args).run Tryz.prog w = .ok (.enter g args) w)
  (h : Row eRec T w base u l) (hp : Asks w g lb l p) :
  Calls Tryz.prog 56 #[u, .func (.func g) #[] lb] w fun e w' => e = .returned (.bool (l.any p)) ∧ Ext w w' := by
 have HP := Lib.hid hp
 have hA := Lib.hid (idx_any l p)
 clear hp
 go_enter Tryz.func56, Tryz.ntmps56
 go_wp2_with fail
 refine (recIndex_v eg h HP.out).mono ?_
 rintro e5 w5 ⟨z, rfl, hz, he5⟩
 go_wp2_with fail
 go_ret
 exact ⟨by rw [← hA.out, ← hz.out]; rfl, he5⟩
set_option maxRecDepth 100000 in
set_option maxHeartbeats 4000000 in
theorem doHit_asks {w : World} {B : Nat} {dk k v : Int} {s : Value} {l : List Rec} (hb : Box w B 34 #[.int .i64 dk, .int .i64 k, .int .i64 v, s]) : Asks w 66 #[.pointer (some ⟨B, 0, none⟩)] l (mHit k v) := by
 intro W r A n c hW _ _
 obtain ⟨rk, ry, rv, rd⟩ := r
 show Calls _ _ #[.agg #[.int .i64 rk, .int .i64 ry, .int .i64 rv, .slice A n c], .pointer (some ⟨B, 0, none⟩)] W _
 have b1 := hb.ext hW
 obtain ⟨x0, x1, x2, x3⟩ := b1.four
 have hlt := b1.lt
 by_cases h1 : ry = k
 ·subst h1
  by_cases h2 : rv = v
  ·subst h2
   go_enter Tryz.func66, Tryz.ntmps66
   go_wp2_with fail
   go_ret
   exact ⟨by simp [mHit], ext_alloc _ _⟩
  ·have q : (rv == v) = false := by simpa using h2
   go_enter Tryz.func66, Tryz.ntmps66
   go_wp2_with fail
   go_ret
   exact ⟨by simp [mHit, h2], ext_alloc _ _⟩
 ·have q : (ry == k) = false := by simpa using h1
  go_enter Tryz.func66, Tryz.ntmps66
  go_wp2_with fail
  go_ret
  exact ⟨by simp [mHit, h1], ext_alloc _ _⟩
end Go.Proofs.YtdmnmfnmaccmoaaGreatDoor
/- Walks: model.Same and its function literals. -/
namespace Go.Proofs.YtdmnmfnmaccmoaaGreatDoor
open Go Go.RowKit
set_option maxRecDepth 100000 in
set_option maxHeartbeats 4000000 in
theorem sameHit_asks {w : World} {B : Nat} {A' : Option Addr} {n' c' : Nat} {s : Rec} {l : List Rec} (hb : Box w B 54 #[.int .i64 s.kind, .int .i64 s.key, .int .i64 s.ver, .slice A' n' c']) (hs : By w w.heap.size A' n' c' s.data) :
  Asks w 57 #[.pointer (some ⟨B, 0, none⟩)] l (fun x => rSame x s) := by
 intro W r A n c hW _ hy
 show Calls _ _ #[.agg #[.int .i64 r.kind, .int .i64 r.key, .int .i64 r.ver, .slice A n c], .pointer (some ⟨B, 0, none⟩)] W _
 have b1 := hb.ext hW
 obtain ⟨x0, x1, x2, x3⟩ := b1.four
 have hlt := b1.lt
 go_enter Tryz.func57, Tryz.ntmps57
 go_wp2_with fail
 refine (same_w (r := r) (s := s) _ (Sl.below hy (ext_alloc _ _)) (Sl.below hs (ext_trans hW (ext_alloc _ _))) (by rw [size_alloc]; omega) (ext_trans hW (ext_alloc _ _)).size).mono ?_
 rintro e5 w5 ⟨rfl, he5⟩
 go_wp2_with fail
 go_ret
 exact ⟨rfl, ext_trans (ext_alloc _ _) he5⟩
set_option maxRecDepth 100000 in
set_option maxHeartbeats 4000000 in
theorem inList_w {T : List TypeId} {base : Nat} {u : Value} {l : List Rec} {w : World} {A' : Option Addr} {n' c' : Nat} {s : Rec} (h : Row eRec T w base u l) (hs : By w w.heap.size A' n' c' s.data) :
  Calls Tryz.prog 55 #[u, .agg #[.int .i64 s.kind, .int .i64 s.key, .int .i64 s.ver, .slice A' n' c']] w fun e w' => e = .returned (.bool (l.any fun x => rSame x s)) ∧ Ext w w' := by
 have eg := enters_of Tryz.func57 (by kernel_rfl) rfl
 go_enter Tryz.func55, Tryz.ntmps55
 go_wp2_with fail
 generalize hwn : World.alloc _ (Obj.cells #[.int .i64 s.kind, .int .i64 s.key, .int .i64 s.ver, .slice A' n' c'] 54) = wn
 have b4 := box_st hwn
 have he := ext_st hwn
 clear hwn
 refine (recHas_v eg (h.ext he) (sameHit_asks b4 (hs.keep he.size fun _ hp => he.cell hp))).mono ?_
 rintro e5 w5 ⟨rfl, he5⟩
 go_wp2_with fail
 go_ret
 exact ⟨rfl, ext_trans he he5⟩
end Go.Proofs.YtdmnmfnmaccmoaaGreatDoor
/- Walks: model.Same. -/
namespace Go.Proofs.YtdmnmfnmaccmoaaGreatDoor
open Go Go.RowKit
theorem mSame_false {a b : List Rec} {j : Nat} (hj : j < a.length) (h : (b.any fun x => rSame x (a.getD j rZero)) = false) : mSame a b = false := by
 cases hs : mSame a b with
 | false => rfl
 | true =>
  unfold mSame at hs
  simp only [Bool.and_eq_true, List.all_eq_true] at hs
  have h1 := hs.1 _ (List.getElem_mem hj)
  rw [getD_at hj] at h
  rw [h1] at h
  cases h
theorem mSame_end {a b : List Rec} (h : ∀ j, j < a.length → (b.any fun x => rSame x (a.getD j rZero)) = true) : mSame a b = ((a.length : Int) == (b.length : Int)) := by
 have h1 : (a.all fun r => b.any fun x => rSame x r) = true := by
  rw [List.all_eq_true]
  intro r hr
  obtain ⟨j, hj, rfl⟩ := List.getElem_of_mem hr
  have := h j hj
  rwa [getD_at hj] at this
 unfold mSame
 rw [h1, Bool.true_and, Bool.eq_iff_iff]
 simp only [decide_eq_true_eq, beq_iff_eq]
 omega
set_option maxRecDepth 100000 in
set_option maxHeartbeats 4000000 in
theorem mSame_v {T T' : List TypeId} {base base' : Nat} {u u' : Value} {a b : List Rec} {w : World} (ha : Row eRec T w base u a) (hb : Row eRec T' w base' u' b) :
  Calls Tryz.prog 32 #[u, u'] w fun e w' => e = .returned (.bool (mSame a b)) ∧ Ext w w' := by
 obtain ⟨A, m, c, rfl, hc, hcm, HM⟩ := ha.form
 obtain ⟨A', m', c', rfl, hc', hcm', HM'⟩ := hb.form
 unfold maxLen at hcm hcm'
 go_enter Tryz.func32, Tryz.ntmps32
 go_wp2_with fail
 go_loopw [10] (fun i wr => ∃ (k : Nat), k ≤ m ∧ i = .int .i64 k ∧ Hid (∀ j, j < k → (b.any fun x => rSame x (a.getD j rZero)) = true) ∧ Ext w wr) (fun i _ => m - (intOf i).toNat)
 case atStart => exact ⟨0, by omega, rfl, Lib.hid (fun j hj => by omega), Below.refl _ _⟩
 case round =>
  obtain ⟨k, hk, rfl, hT, hd⟩ := hrel
  by_cases hlt : k < m
  ·have e0 : (0 : Int) ≤ (k : Int) := by omega
   have e1 : (k : Int) < (m : Int) := by omega
   obtain ⟨g, o, u, rfl, hg, c0, c1, c2, c3, hu⟩ := (ha.ext hd).rec_at hlt
   have hal : k < a.length := HM.out ▸ hlt
   have hno := fun h1 => Lib.hid (mSame_false (b := b) hal h1)
   have hyes : (b.any fun x => rSame x (a.getD k rZero)) = true → Hid (∀ j, j < k + 1 → (b.any fun x => rSame x (a.getD j rZero)) = true) := by
    intro h1 j hj
    by_cases hja : j < k
    ·exact hT.out j hja
    ·have : j = k := by omega
     rw [this]
     exact h1
   generalize a.getD k rZero = r at c0 c1 c2 hu hno hyes
   obtain ⟨A2, n2, c2', rfl, hy, _⟩ := hu.form
   have Hno := Lib.hid hno
   have Hyes := Lib.hid hyes
   clear hno hyes hal
   go_wp2_with fail
   generalize hwn : World.alloc _ (Obj.cells #[.int .i64 r.kind, .int .i64 r.key, .int .i64 r.ver, .slice A2 n2 c2'] 54) = wn
   have he := ext_st hwn
   have b7 := box_st hwn
   clear hwn
   refine (inList_w (s := r) (hb.ext (ext_trans hd he)) (hy.keep he.size fun _ hp => he.cell hp)).mono ?_
   rintro e9 w9 ⟨rfl, he9⟩
   cases hq : (b.any fun x => rSame x r) with
   | true =>
    have hm := Hyes.out hq
    clear Hyes Hno hq
    go_wp2_with fail
    refine ⟨⟨k + 1, by omega, rfl, hm, ext_trans hd (ext_trans he he9)⟩, ?_⟩
    simp only [intOf]
    omega
   | false =>
    have hm := Hno.out hq
    clear Hyes Hno hq
    go_wp2_with fail
    go_ret
    exact ⟨by rw [hm.out]; rfl, ext_trans hd (ext_trans he he9)⟩
  ·have hE := mSame_end (a := a) (b := b) (fun j hj => hT.out j (by have := HM.out; omega))
   rw [← HM.out, ← HM'.out] at hE
   have HE := Lib.hid hE
   clear hE
   go_wp2_with fail
   go_ret
   exact ⟨by rw [HE.out]; rfl, hd⟩
end Go.Proofs.YtdmnmfnmaccmoaaGreatDoor
/- A row of the call's own, one element cut out in place. No walk here. -/
namespace Go.Proofs.YtdmnmfnmaccmoaaGreatDoor
open Go Go.RowKit
def putAt (cs : Array Value) : Nat → List Value → Array Value
 | _, [] => cs
 | o, v :: vs => putAt (cs.setIfInBounds o v) (o + 1) vs
theorem putAt_nil (cs : Array Value) (o : Nat) : putAt cs o [] = cs := by unfold putAt; rfl
theorem putAt_cons (cs : Array Value) (o : Nat) (v : Value) (vs : List Value) : putAt cs o (v :: vs) = putAt (cs.setIfInBounds o v) (o + 1) vs := by rw [putAt]
theorem box_setCells {g : Nat} {t : TypeId} (vs : List Value) : ∀ (o : Nat) {w : World} {cs : Array Value}, Box w g t cs → Box (w.setCells g o vs) g t (putAt cs o vs) := by
 induction vs with
 | nil => intro o w cs h; rw [putAt_nil]; exact h
 | cons v vs ih => intro o w cs h; rw [putAt_cons]; exact ih (o + 1) (h.set o v)
theorem putAt_size (vs : List Value) : ∀ (o : Nat) (cs : Array Value), (putAt cs o vs).size = cs.size := by
 induction vs with
 | nil => intro o cs; rw [putAt_nil]
 | cons v vs ih => intro o cs; rw [putAt_cons, ih]; simp
theorem putAt_get (vs : List Value) : ∀ (o : Nat) (cs : Array Value) (j : Nat), o + vs.length ≤ cs.size → (putAt cs o vs)[j]? = if o ≤ j ∧ j < o + vs.length then vs[j - o]? else cs[j]? := by
 induction vs with
 | nil =>
  intro o cs j _
  rw [putAt_nil, if_neg]
  simp only [List.length_nil]
  omega
 | cons v vs ih =>
  intro o cs j h
  simp only [List.length_cons] at h
  rw [putAt_cons, ih (o + 1) _ j (by simp; omega)]
  by_cases h1 : j = o
  ·subst h1
   rw [if_neg (by omega), if_pos (by simp only [List.length_cons]; omega), Nat.sub_self, Array.getElem?_setIfInBounds, if_pos rfl, if_pos (by omega)]
   rfl
  ·by_cases h2 : o + 1 ≤ j ∧ j < o + 1 + vs.length
   ·rw [if_pos h2, if_pos (by simp only [List.length_cons]; omega)]
    obtain ⟨i, rfl⟩ : ∃ i, j = o + 1 + i := ⟨j - (o + 1), by omega⟩
    rw [show o + 1 + i - (o + 1) = i by omega, show o + 1 + i - o = i + 1 by omega, List.getElem?_cons_succ]
   ·rw [if_neg h2, if_neg (by simp only [List.length_cons]; omega), Array.getElem?_setIfInBounds, if_neg (by omega)]
theorem flat_len {s : Nat} (css : List (List Value)) : (∀ cs ∈ css, cs.length = s) → css.flatten.length = css.length * s := by
 induction css with
 | nil => intro _; simp
 | cons c css ih =>
  intro h
  rw [List.flatten_cons, List.length_append, ih (fun x hx => h x (by simp [hx])), h c (by simp), List.length_cons, Nat.add_mul]
  omega
theorem fl_take {s : Nat} (css : List (List Value)) : (∀ cs ∈ css, cs.length = s) → ∀ k, css.flatten.take (k * s) = (css.take k).flatten := by
 induction css with
 | nil => intro _ k; simp
 | cons c css ih =>
  intro h k
  cases k with
  | zero => simp
  | succ k =>
   have hc := h c (by simp)
   rw [List.take_succ_cons, List.flatten_cons, List.flatten_cons, List.take_append, hc, show (k + 1) * s - s = k * s by rw [Nat.add_mul]; omega, ih (fun x hx => h x (by simp [hx])), List.take_of_length_le (by rw [hc, Nat.add_mul]; omega)]
theorem fl_drop {s : Nat} (css : List (List Value)) : (∀ cs ∈ css, cs.length = s) → ∀ k, css.flatten.drop (k * s) = (css.drop k).flatten := by
 induction css with
 | nil => intro _ k; simp
 | cons c css ih =>
  intro h k
  cases k with
  | zero => simp
  | succ k =>
   have hc := h c (by simp)
   rw [List.drop_succ_cons, List.flatten_cons, List.drop_append, hc, show (k + 1) * s - s = k * s by rw [Nat.add_mul]; omega, ih (fun x hx => h x (by simp [hx])), List.drop_of_length_le (by rw [hc, Nat.add_mul]; omega), List.nil_append]
theorem flat_erase {s : Nat} (css : List (List Value)) (h : ∀ cs ∈ css, cs.length = s) (k : Nat) : (css.eraseIdx k).flatten = css.flatten.take (k * s) ++ css.flatten.drop ((k + 1) * s) := by
 rw [List.eraseIdx_eq_take_drop_succ, List.flatten_append, fl_take css h, fl_drop css h]
theorem eraseIdx_getD {α : Type} (l : List α) (k i : Nat) (d : α) : (l.eraseIdx k).getD i d = if i < k then l.getD i d else l.getD (i + 1) d := by
 rw [List.getD_eq_getElem?_getD, List.getD_eq_getElem?_getD, List.getD_eq_getElem?_getD, List.getElem?_eraseIdx]
 split <;> rfl
theorem Cs.erase {α : Type} {E : El α} {P : Value → List UInt8 → Prop} {css : List (List Value)} {xs : List α} (h : Cs E P css xs) {k : Nat} (hk : k < xs.length) : Cs E P (css.eraseIdx k) (xs.eraseIdx k) := by
 have hl := h.1
 refine ⟨by rw [List.length_eraseIdx_of_lt (by omega), List.length_eraseIdx_of_lt hk, hl], fun i hi => ?_⟩
 rw [List.length_eraseIdx_of_lt hk] at hi
 rw [eraseIdx_getD, eraseIdx_getD]
 split
 ·exact h.2 i (by omega)
 ·exact h.2 (i + 1) (by omega)
theorem OwnRow.cut {w : World} {rb base n c k : Nat} {A : Option Addr} {l : List Rec} (h : OwnRow eRec w rb base (.slice A n c) l) (hk : k < n) :
  ∃ g cur news, A = some ⟨g, 0, none⟩ ∧ rb ≤ g ∧ Box w g 54 cur ∧ cur.size = c * 4 ∧ n ≤ c ∧ c ≤ maxLen ∧ n = l.length ∧ news.length = (n - (k + 1)) * 4 ∧ (∀ j u, news[j]? = some u → w.cell? ⟨g, (k + 1) * 4 + j, none⟩ = some u) ∧ (∀ u ∈ news, u.oneCell' = true) ∧
   ∀ (w' : World) (z : List Value), z.length = 4 → Kept [] base w w' → Box w' g 54 (putAt (putAt cur (k * 4) news) ((n - 1) * 4) z) → OwnRow eRec w' rb base (.slice (some ⟨g, 0, none⟩) (n - 1) c) (l.eraseIdx k) := by
 obtain ⟨css, hc, hl, h⟩ := h
 have hlen : css.length = l.length := hc.1
 rcases h with ⟨e1, e2⟩ | ⟨g, cap, cur, hv, hg, hh, hn, hm, hs, ht⟩
 ·injection e1 with _ h2 _
  omega
 ·injection hv with h1 h2 h3
  subst h1 h2 h3
  have h4 : ∀ cs ∈ css, cs.length = 4 := fun cs hcs => by
   obtain ⟨x, hx⟩ := hc.mem cs hcs
   exact eRec.len hx
  have hs : cur.size = c * 4 := hs
  have ht : cur.toList.take (l.length * 4) = css.flatten := ht
  have hfl : css.flatten.length = l.length * 4 := by rw [flat_len css h4, hlen]
  have hget : ∀ j, j < l.length * 4 → cur[j]? = css.flatten[j]? := by
   intro j hj
   rw [← ht, List.getElem?_take, if_pos hj]
   simp
  have hnl : (css.flatten.drop ((k + 1) * 4)).length = (l.length - (k + 1)) * 4 := by rw [List.length_drop, hfl]; omega
  refine ⟨g, cur, css.flatten.drop ((k + 1) * 4), rfl, hg, hh, hs, hn, hm, rfl, hnl, ?_, ?_, ?_⟩
  ·intro j u hu
   have hj : j < (l.length - (k + 1)) * 4 := by rw [← hnl]; exact (List.getElem?_eq_some_iff.1 hu).1
   rw [List.getElem?_drop] at hu
   refine Box.cell hh _ ?_
   rw [hget _ (by omega)]
   exact hu
  ·intro u hu
   have hu := List.mem_of_mem_drop hu
   obtain ⟨cs, hcs, huc⟩ := List.mem_flatten.1 hu
   obtain ⟨x, hx⟩ := hc.mem cs hcs
   exact eRec.one ByT.one hx u huc
  ·intro w' z hz hK hB
   have hel : (l.eraseIdx k).length = l.length - 1 := List.length_eraseIdx_of_lt hk
   refine ⟨css.eraseIdx k, (hc.erase hk).mono fun _ _ h => h.kept hK, ?_⟩
   rw [hel]
   have hfe := flat_erase css h4 k
   have hp1 : (putAt cur (k * 4) (css.flatten.drop ((k + 1) * 4))).size = c * 4 := by rw [putAt_size, hs]
   refine ⟨?_, .inr ⟨g, c, _, rfl, hg, hB, by omega, hm, ?_, ?_⟩⟩
   ·rw [hfe, List.length_append, hnl, List.length_take, hfl]
    show _ = (l.length - 1) * 4
    omega
   ·rw [putAt_size, hp1]
    rfl
   ·show (_ : List Value).take ((l.length - 1) * 4) = _
    rw [hfe]
    apply List.ext_getElem?
    intro j
    rw [List.getElem?_take]
    by_cases hj : j < (l.length - 1) * 4
    ·rw [if_pos hj, Array.getElem?_toList, putAt_get _ _ _ _ (by rw [hp1, hz]; omega), if_neg (by omega), putAt_get _ _ _ _ (by rw [hs, hnl]; omega), List.getElem?_append, List.length_take, hfl]
     by_cases hjk : j < k * 4
     ·rw [if_neg (by omega), if_pos (by omega), List.getElem?_take, if_pos hjk, hget j (by omega)]
     ·rw [if_pos (by rw [hnl]; omega), if_neg (by omega), show min (k * 4) (l.length * 4) = k * 4 by omega]
    ·rw [if_neg hj, List.getElem?_eq_none]
     rw [List.length_append, hnl, List.length_take, hfl]
     omega
end Go.Proofs.YtdmnmfnmaccmoaaGreatDoor
/- Walks: slices.Delete of one record. -/
namespace Go.Proofs.YtdmnmfnmaccmoaaGreatDoor
open Go Go.RowKit
def zRec : List Value := [.int .i64 0, .int .i64 0, .int .i64 0, .slice none 0 0]
theorem run_clear_rec (w : World) (ty : TypeId) (b o c : Nat) (hc : ∀ j, j < 4 → (w.cell? ⟨b, o + j, none⟩).isSome = true) (hf : ∀ j, j < 4 → w.frozen? ⟨b, o + j, none⟩ = false) :
  (Builtin.clear_ #[46] ty #[.slice (some ⟨b, o, none⟩) 1 c]).run Tryz.prog w = .ok (.tuple #[]) (w.setCells b o zRec) := by
 have hv : ∀ w, (zeroValue 54).run Tryz.prog w = .ok (.agg #[.int .i64 0, .int .i64 0, .int .i64 0, .slice none 0 0]) w := fun w => by kernel_rfl
 have hzc : (Builtin.zeroCells (Value.agg #[.int .i64 0, .int .i64 0, .int .i64 0, .slice none 0 0]).cells 1).toList = zRec := by kernel_rfl
 have hst := run_storeCells_cells (P := Tryz.prog) b o zRec 0 w (by simpa [zRec] using hc) (by simpa [zRec] using hf) (by intro v hv'; simp [zRec] at hv'; rcases hv' with rfl | rfl <;> rfl)
 simp only [Nat.add_zero] at hst
 simp [Builtin.clear_, run_underlying Tryz.underlying46, hv, hzc, hst]
theorem kd_cells {g : Nat} {t : TypeId} (vs : List Value) : ∀ (o : Nat) {w : World}, Kd w g t → Kd (w.setCells g o vs) g t := by
 induction vs with
 | nil => intro o w h; exact h
 | cons v vs ih => intro o w h; exact ih (o + 1) (by (repeat (with_reducible (first | assumption | apply Kd.set | apply Kd.alloc | apply Kd.drew))))
theorem kept_cells {g base : Nat} {w0 : World} (hb : base ≤ g) (vs : List Value) : ∀ (o : Nat) {w : World}, Kd w g 54 → Kept [] base w0 w → Kept [] base w0 (w.setCells g o vs) := by
 induction vs with
 | nil => intro o w _ h; exact h
 | cons v vs ih =>
  intro o w hk h
  exact ih (o + 1) (by (repeat (with_reducible (first | assumption | apply Kd.set | apply Kd.alloc | apply Kd.drew)))) (h.setK hk (by decide) hb o v)
theorem below_cells {g B : Nat} {w0 : World} (vs : List Value) : ∀ (o : Nat) {w : World}, B ≤ g → Below B w0 w → Below B w0 (w.setCells g o vs) := by
 induction vs with
 | nil => intro o w _ h; exact h
 | cons v vs ih => intro o w hg h; exact ih (o + 1) hg (h.setCell hg _)
set_option maxRecDepth 100000 in
set_option maxHeartbeats 4000000 in
theorem recDelete_v {w : World} {rb base n c k : Nat} {A : Option Addr} {l : List Rec} (h : OwnRow eRec w rb base (.slice A n c) l) (hk : k < n) (hrb : base ≤ rb) :
  Calls Tryz.prog 67 #[.slice A n c, .int .i64 k, .int .i64 (k + 1)] w fun e w' => ∃ v, e = .returned v ∧ OwnRow eRec w' rb base v (l.eraseIdx k) ∧ Below rb w w' := by
 obtain ⟨g, cur, news, rfl, hg, hb, hs, hnc, hcm, hnl, hlen, hsrc, hone, hnew⟩ := h.cut hk
 unfold maxLen at hcm
 have hne : ((k : Int) == (k : Int) + 1) = false := by rw [beq_eq_false_iff_ne]; omega
 have q0 : (0 : Int) ≤ (k : Int) := by omega
 have q1 : (k : Int) ≤ (k : Int) + 1 := by omega
 have q2 : (k : Int) + 1 ≤ (n : Int) := by omega
 have q3 : (n : Int) ≤ (c : Int) := by omega
 have q4 : (0 : Int) ≤ (k : Int) + 1 := by omega
 have q5 : ((k : Int) + 1).toNat = k + 1 := by omega
 have hlt := hb.lt
 have mixed : Tryz.prog.follows .mixedOrders = true := by kernel_rfl
 obtain ⟨i0, hi0, hz4⟩ : ∃ i0, Tryz.prog.info? 54 = some i0 ∧ i0.size = 4 := by
  have h0 := info_rec
  cases hi : Tryz.prog.info? 54 with
  | none => rw [hi] at h0; cases h0
  | some i =>
   rw [hi] at h0
   simp only [Option.map_some, Option.some.injEq, Prod.mk.injEq] at h0
   exact ⟨i, rfl, h0.2.1⟩
 obtain ⟨A2, hA2, hsrc2⟩ : ∃ A2 : Addr, (if c = k + 1 then some (⟨g, 0, none⟩ : Addr) else some ⟨g, (k + 1) * 4, none⟩) = some A2 ∧ Hid (∀ j u, news[j]? = some u → w.drew.cell? (A2.add j) = some u) := by
  by_cases he : c = k + 1
  ·refine ⟨⟨g, 0, none⟩, by rw [if_pos he], fun j u hu => ?_⟩
   have h0 : news = [] := List.eq_nil_of_length_eq_zero (by rw [hlen]; omega)
   rw [h0] at hu
   simp at hu
  ·refine ⟨⟨g, (k + 1) * 4, none⟩, by rw [if_neg he], fun j u hu => ?_⟩
   rw [Addr.add_lit]
   exact hsrc j u hu
 have s3 : Hid (∀ j, j < news.length → (w.drew.cell? ⟨g, 0 + k * 4 + j, none⟩).isSome = true ∧ w.drew.frozen? ⟨g, 0 + k * 4 + j, none⟩ = false) := by
  intro j hj
  rw [hlen] at hj
  refine ⟨?_, hb.free _⟩
  have : (0 + k * 4 + j) < cur.size := by rw [hs]; omega
  show (w.cell? _).isSome = true
  rw [hb.cell (0 + k * 4 + j) (Array.getElem?_eq_getElem this)]
  rfl
 obtain ⟨W1, hW1⟩ : ∃ W1, W1 = w.drew.setCells g (0 + k * 4) news := ⟨_, rfl⟩
 have hb1 : Box W1 g 54 (putAt cur (k * 4) news) := by
  rw [hW1, Nat.zero_add]
  exact box_setCells news (k * 4) (hb.drew)
 have hcl : ∀ ty, (Builtin.clear_ #[46] ty #[.slice (some ⟨g, (n - 1) * 4, none⟩) 1 (c - (n - 1))]).run Tryz.prog W1 = .ok (.tuple #[]) (W1.setCells g ((n - 1) * 4) zRec) := fun ty =>
  run_clear_rec W1 ty g ((n - 1) * 4) _ (fun j hj => by
   have : (n - 1) * 4 + j < (putAt cur (k * 4) news).size := by rw [putAt_size, hs]; omega
   rw [hb1.cell _ (Array.getElem?_eq_getElem this)]
   rfl) (fun j hj => hb1.free _)
 have hkn : k + (n - (k + 1)) = n - 1 := by omega
 have hcl2 : ∀ ty, (Builtin.clear_ #[46] ty #[.slice (some ⟨g, (k + (n - (k + 1))) * 4, none⟩) (n - (k + (n - (k + 1)))) (c - (k + (n - (k + 1))))]).run Tryz.prog W1 = .ok (.tuple #[]) (W1.setCells g ((n - 1) * 4) zRec) := fun ty => by
  rw [hkn, show n - (n - 1) = 1 by omega]
  exact hcl ty
 have r1 : k + (n - (k + 1)) ≤ n := by omega
 have r2 : ¬ (c = k + (n - (k + 1))) := by omega
 have HKN := Lib.hid hkn
 clear hkn hcl
 have hW : Hid (W1 = w.drew.setCells g (0 + k * 4) news) := hW1
 have hkc : k ≤ c := by omega
 have hk1c : k + 1 ≤ c := by omega
 have Hnew := Lib.hid hnew
 have Hone := Lib.hid hone
 have HNL := Lib.hid hnl
 have HLEN := Lib.hid hlen
 clear hnew hsrc hone h hnl hlen hW1 hb1 hs
 go_enter Tryz.func67, Tryz.ntmps67
 go_wp2_with fail
 go_region_law_o (refine step_append_room rfl (.tmp 22) (.tmp 25) 46 rfl 54 i0 4 Tryz.underlying46 hi0 hz4 g 0 k c (by simp [Act.eval, Act.put]) A2 (n - (k + 1)) (c - (k + 1)) news (by simp [Act.eval, Act.put]) HLEN.out hsrc2.out Hone.out (by omega) s3.out ?_; rw [← hW.out])
 go_wp2_with fail
 go_ret
 refine ⟨_, rfl, ?_, ?_⟩
 ·show OwnRow eRec _ rb base (.slice (some ⟨g, 0, none⟩) (k + (n - (k + 1))) c) _
  rw [HKN.out]
  refine Hnew.out _ zRec rfl ?_ ?_
  ·rw [hW.out]
   have k1 : Kept [] base w w.drew := by (repeat (with_reducible (first | assumption | exact Kept.refl _ _ _ | (apply Kept.setK; rotate_left; (repeat (first | assumption | apply Kd.set | apply Kd.alloc | apply Kd.drew)); decide; omega) | refine Kept.allocK ?_ _ | refine Kept.drewK ?_)))
   have k2 : Kd w.drew g 54 := (hb.drew).kd
   exact kept_cells (Nat.le_trans hrb hg) zRec _ (kd_cells news _ k2) (kept_cells (Nat.le_trans hrb hg) news _ k2 k1)
  ·rw [hW.out, Nat.zero_add]
   exact box_setCells _ _ (box_setCells _ _ hb.drew)
 ·rw [hW.out]
  exact below_cells _ _ hg (below_cells _ _ hg ((Below.refl _ _).drew))
end Go.Proofs.YtdmnmfnmaccmoaaGreatDoor
/- Plain: disks put in order, and the scrubber (chapters 9 and 10). -/
namespace Go.Proofs.YtdmnmfnmaccmoaaGreatDoor
structure dGood (d : Dsk) : Prop where
 len : d.blocks.length = 12
 blk : ∀ j, j < 12 → (d.blocks.getD j []).length = 16
 late : d.late = []
theorem dGood.get {d : Dsk} (h : dGood d) {j : Nat} (hj : j < 12) : dGet d j = (d.blocks.getD j [], 0) := by
 unfold dGet
 rw [if_neg (by have := h.len; omega), h.late]
 rfl
theorem dGood.in_ {d : Dsk} (h : dGood d) {p : Nat} (hp : p < 6) : pIn d p := by unfold pIn; have := h.len; omega
theorem dGood.lateIn {d : Dsk} (h : dGood d) : LateIn d := fun i hi => by rw [h.late] at hi; exact absurd hi (by simp)
theorem pLook_congr {d e : Dsk} {p : Nat} (hd : pIn d p) (he : pIn e p) (h0 : dGet d (2 * (p : Int)) = dGet e (2 * (p : Int))) (h1 : dGet d (2 * (p : Int) + 1) = dGet e (2 * (p : Int) + 1)) : pLook d p = pLook e p := by
 unfold pLook pSide
 rw [if_pos hd, if_pos he, h0, h1]
theorem pTells_iff (s : Rec × Bool) : pTells s = true ↔ s.2 = true ∧ s.1.kind ≠ 1 := by simp [pTells]
theorem pHow_free {a b : Rec × Bool} (ha : a.2 = true → rWrong a.1 = 0) (hb : b.2 = true → rWrong b.1 = 0) (h : (pHow a b).1 = 0) : a = (rFree, true) ∧ b = (rFree, true) := by
 unfold pHow at h
 split at h
 ·simp at h
 ·split at h
  ·split at h <;> simp at h
  ·split at h
   ·simp at h
   ·split at h
    ·simp at h
    ·split at h
     ·rename_i h1 h2 h3
      obtain ⟨a1, a2⟩ := a
      obtain ⟨b1, b2⟩ := b
      simp only at h3 ha hb
      obtain ⟨rfl, rfl⟩ := h3
      have k1 : a1.kind = 1 := by
       by_cases hk : a1.kind = 1
       ·exact hk
       ·exact absurd ((pTells_iff (a1, true)).2 ⟨rfl, hk⟩) h1
      have k2 : b1.kind = 1 := by
       by_cases hk : b1.kind = 1
       ·exact hk
       ·exact absurd ((pTells_iff (b1, true)).2 ⟨rfl, hk⟩) h2
      rw [rFree_of (ha rfl) k1, rFree_of (hb rfl) k2]
      exact ⟨rfl, rfl⟩
     ·simp at h
theorem pHow_both {a b : Rec × Bool} (h : (pHow a b).1 = 1) : a.2 = true ∧ b.2 = true ∧ a.1 = b.1 ∧ (pHow a b).2 = a.1 ∧ a.1.kind ≠ 1 := by
 unfold pHow at h ⊢
 split at h
 ·simp at h
 ·rename_i h0
  rw [if_neg h0]
  split at h
  ·rename_i h1
   rw [if_pos h1]
   split at h
   ·rename_i h2
    rw [if_pos h2]
    exact ⟨((pTells_iff a).1 h1.1).1, ((pTells_iff b).1 h1.2).1, (rSame_iff _ _).1 h2, rfl, ((pTells_iff a).1 h1.1).2⟩
   ·simp at h
  ·repeat' split at h
   all_goals simp at h
theorem pSide_bytes {d : Dsk} {k : Int} (h : (pSide d k).2 = true) : rBytes (pSide d k).1 k = (dGet d k).1 := by
 unfold pSide at h ⊢
 exact (turn3 (by simpa using h)).2
theorem pLook_bytes {d : Dsk} {p : Int} (hp : pIn d p) (h : (pLook d p).1 = 0 ∨ (pLook d p).1 = 1) :
  (dGet d (2 * p)).1 = rBytes (pLook d p).2 (2 * p) ∧ (dGet d (2 * p + 1)).1 = rBytes (pLook d p).2 (2 * p + 1) := by
 unfold pLook at h ⊢
 rw [if_pos hp] at h ⊢
 rcases h with h | h
 ·obtain ⟨e1, e2⟩ := pHow_free (pSide_wrong d _) (pSide_wrong d _) h
  have e3 := (pHow_kind (pSide d (2 * p)) (pSide d (2 * p + 1))).1 h
  rw [e3]
  have b1 := pSide_bytes (d := d) (k := 2 * p) (by rw [e1])
  have b2 := pSide_bytes (d := d) (k := 2 * p + 1) (by rw [e2])
  rw [e1] at b1
  rw [e2] at b2
  exact ⟨b1.symm, b2.symm⟩
 ·obtain ⟨e1, e2, e3, e4, _⟩ := pHow_both h
  rw [e4]
  have b1 := pSide_bytes e1
  have b2 := pSide_bytes e2
  rw [← e3] at b2
  exact ⟨b1.symm, b2.symm⟩
def fBlocks (f : Nat → Rec) : List (List UInt8) := (List.range 12).map fun j => rBytes (f (j / 2)) (j : Int)
theorem fBlocks_getD (f : Nat → Rec) {j : Nat} (hj : j < 12) : (fBlocks f).getD j [] = rBytes (f (j / 2)) (j : Int) := by
 unfold fBlocks
 simp [List.getD_eq_getElem?_getD, List.getElem?_map, List.getElem?_range hj]
theorem fBlocks_length (f : Nat → Rec) : (fBlocks f).length = 12 := by simp [fBlocks]
theorem fBlocks_good (f : Nat → Rec) (h : ∀ p, p < 6 → rWrong (f p) = 0) : dGood ⟨fBlocks f, []⟩ :=
 ⟨fBlocks_length f, fun j hj => by
  show ((fBlocks f).getD j []).length = 16
  rw [fBlocks_getD f hj]
  exact rBytes_length (rWrong_zero' (h _ (by omega))).1, rfl⟩
theorem fBlocks_look (f : Nat → Rec) (h : ∀ p, p < 6 → rWrong (f p) = 0) {p : Nat} (hp : p < 6) : pLook ⟨fBlocks f, []⟩ p = (if (f p).kind = 1 then 0 else 1, f p) := by
 have g := fBlocks_good f h
 refine pLook_both (g.in_ hp) (by omega) (h p hp) ?_ ?_
 ·have := g.get (j := 2 * p) (by omega)
  rw [show ((2 * p : Nat) : Int) = 2 * (p : Int) by omega] at this
  rw [this, fBlocks_getD f (by omega), show 2 * p / 2 = p by omega, show ((2 * p : Nat) : Int) = 2 * (p : Int) by omega]
 ·have := g.get (j := 2 * p + 1) (by omega)
  rw [show ((2 * p + 1 : Nat) : Int) = 2 * (p : Int) + 1 by omega] at this
  rw [this, fBlocks_getD f (by omega), show (2 * p + 1) / 2 = p by omega, show ((2 * p + 1 : Nat) : Int) = 2 * (p : Int) + 1 by omega]
def setPair (bs : List (List UInt8)) (p : Nat) (r : Rec) : List (List UInt8) := (bs.set (2 * p) (rBytes r (2 * (p : Int)))).set (2 * p + 1) (rBytes r (2 * (p : Int) + 1))
theorem setPair_length (bs : List (List UInt8)) (p : Nat) (r : Rec) : (setPair bs p r).length = bs.length := by simp [setPair]
theorem setPair_getD (bs : List (List UInt8)) (p : Nat) (r : Rec) (hp : 2 * p + 1 < bs.length) (j : Nat) : (setPair bs p r).getD j [] = if j / 2 = p then rBytes r (j : Int) else bs.getD j [] := by
 unfold setPair
 rw [getD_set, getD_set, List.length_set]
 by_cases h1 : 2 * p + 1 = j
 ·subst h1
  rw [if_pos ⟨rfl, hp⟩, if_pos (by omega)]
  congr 1
 ·rw [if_neg (by omega)]
  by_cases h2 : 2 * p = j
  ·subst h2
   rw [if_pos ⟨rfl, by omega⟩, if_pos (by omega)]
   congr 1
  ·rw [if_neg (by omega), if_neg (by omega)]
theorem flush_put {d : Dsk} (h : dGood d) {p : Nat} (hp : p < 6) {r : Rec} (hr : rWrong r = 0) : dFlush (pPut d p r).1 = ⟨setPair d.blocks p r, []⟩ := by
 rw [pPut_in (h.in_ hp) hr, h.late]
 unfold dFlush
 simp only [List.nil_append, List.length_cons, List.length_nil, fTo, List.getD_cons_zero, List.getD_cons_succ]
 unfold setPair
 congr 1
theorem setPair_good {d : Dsk} (h : dGood d) {p : Nat} (hp : p < 6) {r : Rec} (hr : rWrong r = 0) : dGood ⟨setPair d.blocks p r, []⟩ :=
 ⟨by rw [setPair_length]; exact h.len, fun j hj => by
  show ((setPair d.blocks p r).getD j []).length = 16
  rw [setPair_getD _ _ _ (by have := h.len; omega)]
  split
  ·exact rBytes_length (rWrong_zero' hr).1
  ·exact h.blk j hj, rfl⟩
theorem setPair_look {d : Dsk} (h : dGood d) {p : Nat} (hp : p < 6) {r : Rec} (hr : rWrong r = 0) {q : Nat} (hq : q < 6) :
  pLook ⟨setPair d.blocks p r, []⟩ q = if q = p then (if r.kind = 1 then 0 else 1, r) else pLook d q := by
 have g := setPair_good h hp hr
 have hlen := h.len
 have e : ∀ j : Nat, j < 12 → dGet ⟨setPair d.blocks p r, []⟩ j = if j / 2 = p then (rBytes r (j : Int), 0) else dGet d j := by
  intro j hj
  rw [g.get hj, h.get hj, setPair_getD _ _ _ (by omega)]
  split <;> rfl
 have e0 := e (2 * q) (by omega)
 have e1 := e (2 * q + 1) (by omega)
 rw [show ((2 * q : Nat) : Int) = 2 * (q : Int) by omega] at e0
 rw [show ((2 * q + 1 : Nat) : Int) = 2 * (q : Int) + 1 by omega] at e1
 rw [show 2 * q / 2 = q by omega] at e0
 rw [show (2 * q + 1) / 2 = q by omega] at e1
 by_cases hqp : q = p
 ·subst hqp
  rw [if_pos rfl]
  rw [if_pos rfl] at e0 e1
  exact pLook_both (g.in_ hp) (by omega) hr e0 e1
 ·rw [if_neg hqp]
  rw [if_neg hqp] at e0 e1
  exact pLook_congr (g.in_ hq) (h.in_ hq) e0 e1
theorem flush_good {d : Dsk} (h : dGood d) : dFlush d = d := by
 obtain ⟨bs, ls⟩ := d
 have hl := h.late
 simp only at hl
 subst hl
 rfl
theorem setPair_same {d : Dsk} (h : dGood d) {p : Nat} (hp : p < 6) (hh : (pLook d p).1 = 0 ∨ (pLook d p).1 = 1) : (⟨setPair d.blocks p (pLook d p).2, []⟩ : Dsk) = d := by
 obtain ⟨bs, ls⟩ := d
 have hl := h.late
 simp only at hl
 subst hl
 congr 1
 have hb := pLook_bytes (h.in_ hp) hh
 refine list_ext_getD [] (setPair_length _ _ _) fun j hj => ?_
 rw [setPair_length] at hj
 have hj : j < 12 := by have := h.len; simp only at this hj; omega
 rw [setPair_getD _ _ _ (by have := h.len; simp only at this ⊢; omega)]
 split
 ·rename_i e
  subst e
  have hg := h.get hj
  rcases Nat.mod_two_eq_zero_or_one j with e | e
  ·have e2 : 2 * ((j / 2 : Nat) : Int) = (j : Int) := by omega
   rw [e2, hg] at hb
   exact hb.1.symm
  ·have e2 : 2 * ((j / 2 : Nat) : Int) + 1 = (j : Int) := by omega
   rw [e2, hg] at hb
   exact hb.2.symm
 ·rfl
theorem flush_mend {d : Dsk} (h : dGood d) {p : Nat} (hp : p < 6) : dFlush (pMend d p).1 = ⟨setPair d.blocks p (pLook d p).2, []⟩ := by
 unfold pMend
 split
 ·rename_i hh
  rw [setPair_same h hp hh]
  exact flush_good h
 ·exact flush_put h hp (pLook_right d p)
def scOne (s : Sto) : Sto × Int := (⟨dFlush (pMend s.disk s.next).1, iScan (dFlush (pMend s.disk s.next).1), (s.next + 1) % max ((s.disk.blocks.length : Int) / 2) 1⟩, (pMend s.disk s.next).2)
def scTo (s : Sto) : Nat → Sto × List Int
 | 0 => (s, [])
 | k + 1 => ((scOne (scTo s k).1).1, (scTo s k).2 ++ [(scOne (scTo s k).1).2])
def scHows (d : Dsk) (n : Nat) : List Int := (List.range n).map fun p : Nat => (pLook d p).1
structure sGood (s : Sto) : Prop where
 disk : dGood s.disk
 right : iRight s.index
 pairs : ∀ e ∈ s.index, e.pair < 6
 next : 0 ≤ s.next ∧ s.next < 6
theorem iScan_good {d : Dsk} (h : dGood d) : iRight (iScan d) ∧ ∀ e ∈ iScan d, e.pair < 6 := by
 refine ⟨iScan_right d (by rw [h.len]; omega), fun e he => ?_⟩
 have := iTo_pair d _ e he
 rw [h.len] at this
 exact this
theorem pMend_how (d : Dsk) (p : Int) : (pMend d p).2 = (pLook d p).1 := by unfold pMend; split <;> rfl
theorem scOne_good {s : Sto} (h : sGood s) : scOne s = (⟨⟨setPair s.disk.blocks s.next.toNat (pLook s.disk s.next).2, []⟩, iScan ⟨setPair s.disk.blocks s.next.toNat (pLook s.disk s.next).2, []⟩, (s.next + 1) % 6⟩, (pLook s.disk s.next).1) := by
 have h1 := h.next
 have e : s.next = ((s.next.toNat : Nat) : Int) := by omega
 unfold scOne
 rw [pMend_how, h.disk.len]
 have := flush_mend h.disk (p := s.next.toNat) (by omega)
 rw [← e] at this
 rw [this]
 rfl
theorem scOne_sGood {s : Sto} (h : sGood s) : sGood (scOne s).1 := by
 have h1 := h.next
 have g := setPair_good h.disk (p := s.next.toNat) (by omega) (pLook_right s.disk s.next)
 rw [scOne_good h]
 exact ⟨g, (iScan_good g).1, (iScan_good g).2, by simp only; omega⟩
theorem scTo_sGood {s : Sto} (h : sGood s) : ∀ k, sGood (scTo s k).1
 | 0 => h
 | k + 1 => scOne_sGood (scTo_sGood h k)
end Go.Proofs.YtdmnmfnmaccmoaaGreatDoor
/- Plain: the laws of the scrubber (chapter 9). -/
namespace Go.Proofs.YtdmnmfnmaccmoaaGreatDoor
def seen (x : Int × Rec) : Int × Rec := (if x.2.kind = 1 then 0 else 1, x.2)
theorem scTo_next {s : Sto} (h : sGood s) : ∀ k : Nat, (scTo s k).1.next = (s.next + k) % 6
 | 0 => by have := h.next; show s.next = (s.next + 0) % 6; omega
 | k + 1 => by
  have ih := scTo_next h k
  have e := scOne_good (scTo_sGood h k)
  show (scOne (scTo s k).1).1.next = _
  rw [e]
  show ((scTo s k).1.next + 1) % 6 = _
  rw [ih]
  omega
theorem scTo_look {s : Sto} (h : sGood s) : ∀ (k : Nat), k ≤ 6 → ∀ p : Nat, p < 6 →
  pLook (scTo s k).1.disk p = if ((p : Int) - s.next) % 6 < k then seen (pLook s.disk p) else pLook s.disk p
 | 0, _, p, hp => by
  rw [if_neg (by omega)]
  rfl
 | k + 1, hk, p, hp => by
  have ih := scTo_look h k (by omega)
  have g := scTo_sGood h k
  have hn := scTo_next h k
  have h1 := h.next
  have h2 := g.next
  show pLook (scOne (scTo s k).1).1.disk p = _
  rw [scOne_good g]
  show pLook ⟨setPair (scTo s k).1.disk.blocks (scTo s k).1.next.toNat (pLook (scTo s k).1.disk (scTo s k).1.next).2, []⟩ p = _
  rw [setPair_look g.disk (by omega) (pLook_right _ _) hp]
  by_cases e : p = (scTo s k).1.next.toNat
  ·have e' : (scTo s k).1.next = (p : Int) := by omega
   have hi := ih p hp
   rw [if_neg (by omega)] at hi
   rw [if_pos (show ((p : Int) - s.next) % 6 < ((k + 1 : Nat) : Int) by omega), e', hi, if_pos (by omega)]
   rfl
  ·rw [if_neg e, ih p hp]
   by_cases h3 : ((p : Int) - s.next) % 6 < k
   ·rw [if_pos h3, if_pos (by omega)]
   ·rw [if_neg h3, if_neg (by omega)]
theorem iTo_congr {d e : Dsk} : ∀ k : Nat, (∀ p : Nat, p < k → (pLook d p).2 = (pLook e p).2) → iTo d k = iTo e k
 | 0, _ => rfl
 | k + 1, h => by
  unfold iTo
  rw [iTo_congr k (fun p hp => h p (by omega)), h k (by omega)]
theorem iScan_congr {d e : Dsk} (hd : dGood d) (he : dGood e) (h : ∀ p : Nat, p < 6 → (pLook d p).2 = (pLook e p).2) : iScan d = iScan e := by
 unfold iScan
 rw [hd.len, he.len]
 exact iTo_congr 6 h
theorem scAll_look {s : Sto} (h : sGood s) {p : Nat} (hp : p < 6) : pLook (scTo s 6).1.disk p = seen (pLook s.disk p) := by
 rw [scTo_look h 6 (by omega) p hp, if_pos (by omega)]
theorem seen_how (x : Int × Rec) : (seen x).1 = 0 ∨ (seen x).1 = 1 := by unfold seen; split <;> simp
theorem scAll_how {s : Sto} (h : sGood s) (p : Nat) (hp : p < 6) : (pLook (scTo s 6).1.disk p).1 = 0 ∨ (pLook (scTo s 6).1.disk p).1 = 1 := by
 rw [scAll_look h hp]; exact seen_how _
end Go.Proofs.YtdmnmfnmaccmoaaGreatDoor
/- Plain: disks put in order (chapter 10). -/
namespace Go.Proofs.YtdmnmfnmaccmoaaGreatDoor
def hadB (d : Dsk) (k : Nat) (v : Int) : Bool := (List.range k).any fun q : Nat => decide ((pLook d q).2.kind ≠ 1) && decide ((pLook d q).2.ver = v)
def tTo (d : Dsk) : Nat → List Int
 | 0 => []
 | k + 1 => if (pLook d k).2.kind ≠ 1 ∧ hadB d k (pLook d k).2.ver = true then tTo d k ++ [(k : Int)] else tTo d k
def fTwice (d : Dsk) : List Int := tTo d (d.blocks.length / 2)
def clTo (x : Dsk) (tw : List Int) : Nat → Dsk × List Int
 | 0 => (x, [])
 | k + 1 => (if tw.contains (k : Int) = true then (pPut (pMend (clTo x tw k).1 k).1 k rFree).1 else (pMend (clTo x tw k).1 k).1, (clTo x tw k).2 ++ [(pMend (clTo x tw k).1 k).2])
def fClean (d : Dsk) : Dsk × List Int × List Int :=
 (dFlush (clTo (dKeep d 0) (fTwice (dKeep d 0)) (d.blocks.length / 2)).1, (clTo (dKeep d 0) (fTwice (dKeep d 0)) (d.blocks.length / 2)).2, fTwice (dKeep d 0))
def fTell (x : Dsk) (tw : List Int) (p : Nat) : Rec := if tw.contains (p : Int) = true then rFree else (pLook x p).2
theorem fTell_right (x : Dsk) (tw : List Int) (p : Nat) : rWrong (fTell x tw p) = 0 := by
 unfold fTell
 split
 ·exact rWrong_free
 ·exact pLook_right x p
structure Half (x : Dsk) (f : Nat → Rec) (k : Nat) (o : Dsk) : Prop where
 len : o.blocks.length = 12
 lateIn : LateIn o
 more : o.late.length ≤ 4 * k
 done : ∀ j : Nat, j < 2 * k → j < 12 → dGet o j = (rBytes (f (j / 2)) (j : Int), 0)
 rest : ∀ j : Nat, 2 * k ≤ j → j < 12 → dGet o j = dGet x j
theorem half_put {o : Dsk} (hl : o.blocks.length = 12) (hi : LateIn o) {p : Nat} (hp : p < 6) {r : Rec} (hr : rWrong r = 0) :
  (pPut o p r).1.blocks.length = 12 ∧ LateIn (pPut o p r).1 ∧ (pPut o p r).1.late.length = o.late.length + 2 ∧ ∀ j : Nat, j < 12 → dGet (pPut o p r).1 j = if j / 2 = p then (rBytes r (j : Int), 0) else dGet o j := by
 have hin : pIn o p := by unfold pIn; omega
 rw [pPut_in hin hr]
 refine ⟨hl, hi.two (by omega) (by omega), by simp, fun j hj => ?_⟩
 show dGet ⟨o.blocks, o.late ++ [(2 * (p : Int), rBytes r (2 * (p : Int))), (2 * (p : Int) + 1, rBytes r (2 * (p : Int) + 1))]⟩ j = _
 rw [dGet_two o _ _ _ (by omega) (by omega)]
 by_cases h1 : (j : Int) = 2 * (p : Int) + 1
 ·rw [if_pos h1, if_pos (by omega), h1]
 ·rw [if_neg h1]
  by_cases h2 : (j : Int) = 2 * (p : Int)
  ·rw [if_pos h2, if_pos (by omega), h2]
  ·rw [if_neg h2, if_neg (by omega)]
theorem half_look {x o : Dsk} (hx : dGood x) {f : Nat → Rec} {k : Nat} (h : Half x f k o) {p : Nat} (hk : k ≤ p) (hp : p < 6) : pLook o p = pLook x p := by
 refine pLook_congr (by unfold pIn; have := h.len; omega) (hx.in_ hp) ?_ ?_
 ·have := h.rest (2 * p) (by omega) (by omega)
  rwa [show ((2 * p : Nat) : Int) = 2 * (p : Int) by omega] at this
 ·have := h.rest (2 * p + 1) (by omega) (by omega)
  rwa [show ((2 * p + 1 : Nat) : Int) = 2 * (p : Int) + 1 by omega] at this
theorem half_start {x : Dsk} (hx : dGood x) (f : Nat → Rec) : Half x f 0 x :=
 ⟨hx.len, hx.lateIn, by rw [hx.late]; simp, fun j h => absurd h (by omega), fun _ _ _ => rfl⟩
theorem half_mend {x o : Dsk} (hx : dGood x) {f : Nat → Rec} {k : Nat} (h : Half x f k o) (hk : k < 6) :
  (pMend o k).1.blocks.length = 12 ∧ LateIn (pMend o k).1 ∧ (pMend o k).1.late.length ≤ o.late.length + 2 ∧ (∀ j : Nat, j < 12 → dGet (pMend o k).1 j = if j / 2 = k then (rBytes (pLook x k).2 (j : Int), 0) else dGet o j) ∧ (pMend o k).2 = (pLook x k).1 := by
 have e := half_look hx h (Nat.le_refl k) hk
 unfold pMend
 rw [e]
 split
 ·rename_i hh
  refine ⟨h.len, h.lateIn, by simp, fun j hj => ?_, rfl⟩
  split
  ·rename_i hjk
   show dGet o j = _
   rw [h.rest j (by omega) hj]
   have hb := pLook_bytes (hx.in_ hk) hh
   have hg := hx.get hj
   refine Prod.ext ?_ (by rw [hg])
   rcases Nat.mod_two_eq_zero_or_one j with e2 | e2
   ·have e3 : 2 * (k : Int) = (j : Int) := by omega
    rw [e3] at hb
    exact hb.1
   ·have e3 : 2 * (k : Int) + 1 = (j : Int) := by omega
    rw [e3] at hb
    exact hb.2
  ·rfl
 ·obtain ⟨a, b, c, g⟩ := half_put h.len h.lateIn hk (pLook_right x k)
  exact ⟨a, b, by simp only; omega, g, rfl⟩
theorem clTo_half {x : Dsk} (hx : dGood x) (tw : List Int) : ∀ k : Nat, k ≤ 6 → Half x (fTell x tw) k (clTo x tw k).1 ∧ (clTo x tw k).2 = scHows x k
 | 0, _ => ⟨half_start hx _, rfl⟩
 | k + 1, hk => by
  obtain ⟨h, hh⟩ := clTo_half hx tw k (by omega)
  obtain ⟨a, b, c, g, e⟩ := half_mend hx h (by omega)
  refine ⟨?_, ?_⟩
  ·show Half x (fTell x tw) (k + 1) (if tw.contains (k : Int) = true then (pPut (pMend (clTo x tw k).1 k).1 k rFree).1 else (pMend (clTo x tw k).1 k).1)
   have ht : fTell x tw k = if tw.contains (k : Int) = true then rFree else (pLook x k).2 := rfl
   split
   ·rename_i hc
    rw [if_pos hc] at ht
    obtain ⟨a', b', c', g'⟩ := half_put a b (p := k) (by omega) rWrong_free
    have hm := h.more
    refine ⟨a', b', by omega, fun j hj hj' => ?_, fun j hj hj' => ?_⟩
    ·rw [g' j hj']
     by_cases hjk : j / 2 = k
     ·rw [if_pos hjk, hjk, ht]
     ·rw [if_neg hjk, g j hj', if_neg hjk]
      exact h.done j (by omega) hj'
    ·rw [g' j hj', if_neg (by omega), g j hj', if_neg (by omega)]
     exact h.rest j (by omega) hj'
   ·rename_i hc
    rw [if_neg hc] at ht
    have hm := h.more
    refine ⟨a, b, by omega, fun j hj hj' => ?_, fun j hj hj' => ?_⟩
    ·rw [g j hj']
     by_cases hjk : j / 2 = k
     ·rw [if_pos hjk, hjk, ht]
     ·rw [if_neg hjk]
      exact h.done j (by omega) hj'
    ·rw [g j hj', if_neg (by omega)]
     exact h.rest j (by omega) hj'
  ·show (clTo x tw k).2 ++ [(pMend (clTo x tw k).1 k).2] = _
   rw [hh, e]
   unfold scHows
   rw [List.range_succ, List.map_append]
   rfl
theorem half_flush {x o : Dsk} {f : Nat → Rec} (h : Half x f 6 o) : dFlush o = ⟨fBlocks f, []⟩ := by
 have e : dFlush o = ⟨(dFlush o).blocks, []⟩ := rfl
 rw [e]
 congr 1
 refine list_ext_getD [] (by rw [flush_length, fBlocks_length, h.len]) fun j hj => ?_
 rw [flush_length, h.len] at hj
 have hg := h.done j (by omega) hj
 have := flush_in h.lateIn (j : Int) (by omega) (by rw [h.len]; omega)
 rw [hg] at this
 rw [fBlocks_getD _ hj]
 simpa using this
structure dEven (d : Dsk) : Prop where
 len : d.blocks.length = 12
 blk : ∀ j, j < 12 → (d.blocks.getD j []).length = 16
theorem dEven.keep {d : Dsk} (h : dEven d) : dGood (dKeep d 0) := by
 rw [dKeep_zero]
 exact ⟨h.len, h.blk, rfl⟩
theorem fClean_eq {d : Dsk} (h : dEven d) : fClean d = (⟨fBlocks (fTell (dKeep d 0) (fTwice (dKeep d 0))), []⟩, scHows (dKeep d 0) 6, fTwice (dKeep d 0)) := by
 unfold fClean
 rw [h.len]
 obtain ⟨a, b⟩ := clTo_half h.keep (fTwice (dKeep d 0)) 6 (Nat.le_refl _)
 rw [show 12 / 2 = 6 from rfl, half_flush a, b]
theorem hadB_iff (d : Dsk) (k : Nat) (v : Int) : hadB d k v = true ↔ ∃ q : Nat, q < k ∧ (pLook d q).2.kind ≠ 1 ∧ (pLook d q).2.ver = v := by
 unfold hadB
 simp only [List.any_eq_true, List.mem_range, Bool.and_eq_true, decide_eq_true_eq]
theorem tTo_mem (d : Dsk) : ∀ (k : Nat) (p : Int), p ∈ tTo d k ↔ ∃ i : Nat, i < k ∧ p = i ∧ (pLook d i).2.kind ≠ 1 ∧ hadB d i (pLook d i).2.ver = true
 | 0, p => by simp [tTo]
 | k + 1, p => by
  have ih := tTo_mem d k p
  unfold tTo
  split
  ·rename_i h
   rw [List.mem_append, ih]
   constructor
   ·rintro (⟨i, hi, h'⟩ | h')
    ·exact ⟨i, by omega, h'⟩
    ·obtain rfl := List.mem_singleton.1 h'
     exact ⟨k, by omega, rfl, h⟩
   ·rintro ⟨i, hi, h1, h2⟩
    rcases Nat.lt_or_ge i k with hlt | hge
    ·exact .inl ⟨i, hlt, h1, h2⟩
    ·obtain rfl : i = k := by omega
     exact .inr (by simp [h1])
  ·rename_i h
   rw [ih]
   constructor
   ·rintro ⟨i, hi, h'⟩; exact ⟨i, by omega, h'⟩
   ·rintro ⟨i, hi, h1, h2⟩
    rcases Nat.lt_or_ge i k with hlt | hge
    ·exact ⟨i, hlt, h1, h2⟩
    ·obtain rfl : i = k := by omega
     exact absurd h2 h
theorem tTo_nil {d : Dsk} : ∀ (k : Nat), (∀ i : Nat, i < k → (pLook d i).2.kind ≠ 1 → hadB d i (pLook d i).2.ver = false) → tTo d k = []
 | 0, _ => rfl
 | k + 1, h => by
  unfold tTo
  rw [if_neg (by rintro ⟨h1, h2⟩; rw [h k (by omega) h1] at h2; cases h2), tTo_nil k fun i hi => h i (by omega)]
theorem fTell_kind {x : Dsk} (hx : dGood x) {p : Nat} (hp : p < 6) : (fTell x (fTwice x) p).kind ≠ 1 ↔ (pLook x p).2.kind ≠ 1 ∧ hadB x p (pLook x p).2.ver = false := by
 have hm : (fTwice x).contains (p : Int) = true ↔ (pLook x p).2.kind ≠ 1 ∧ hadB x p (pLook x p).2.ver = true := by
  rw [List.contains_iff_mem]
  unfold fTwice
  rw [hx.len, tTo_mem]
  constructor
  ·rintro ⟨i, _, h1, h2⟩
   obtain rfl : p = i := by omega
   exact h2
  ·intro h
   exact ⟨p, by omega, rfl, h⟩
 unfold fTell
 by_cases hc : (fTwice x).contains (p : Int) = true
 ·rw [if_pos hc]
  have := (hm.1 hc).2
  rw [this]
  simp [rFree]
 ·rw [if_neg hc]
  constructor
  ·intro h
   refine ⟨h, ?_⟩
   cases hb : hadB x p (pLook x p).2.ver with
   | false => rfl
   | true => exact absurd (hm.2 ⟨h, hb⟩) hc
  ·exact fun h => h.1
theorem fTell_told {x : Dsk} {p : Nat} (h : (fTell x (fTwice x) p).kind ≠ 1) : fTell x (fTwice x) p = (pLook x p).2 := by
 unfold fTell at h ⊢
 split
 ·rename_i hc
  rw [if_pos hc] at h
  exact absurd rfl h
 ·rfl
theorem clean_look (x : Dsk) {p : Nat} (hp : p < 6) : pLook ⟨fBlocks (fTell x (fTwice x)), []⟩ p = (if (fTell x (fTwice x) p).kind = 1 then 0 else 1, fTell x (fTwice x) p) :=
 fBlocks_look _ (fun _ _ => fTell_right _ _ _) hp
theorem clean_good (x : Dsk) : dGood ⟨fBlocks (fTell x (fTwice x)), []⟩ := fBlocks_good _ fun _ _ => fTell_right _ _ _
theorem fTwice12 {x : Dsk} (hx : dGood x) : fTwice x = tTo x 6 := by unfold fTwice; rw [hx.len]
theorem keep_good {d : Dsk} (h : dGood d) : dKeep d 0 = d := by
 rw [dKeep_zero]
 obtain ⟨bs, ls⟩ := d
 have := h.late
 simp only at this
 subst this
 rfl
theorem dGood.even {d : Dsk} (h : dGood d) : dEven d := ⟨h.len, h.blk⟩
end Go.Proofs.YtdmnmfnmaccmoaaGreatDoor
