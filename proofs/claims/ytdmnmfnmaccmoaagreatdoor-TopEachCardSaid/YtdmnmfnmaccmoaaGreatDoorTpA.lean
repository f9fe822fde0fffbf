/- Texts laid together: words, plain laws and walks of the program's functions (TpA). -/
import Derived.Test.YtdmnmfnmaccmoaaGreatDoorG5
import Derived.Test.YtdmnmfnmaccmoaaGreatDoorTxA
import Derived.Maps.Own
import Derived.Maps.OwnOps
import Derived.Maps.OwnSet
import Derived.Maps.Views
import Derived.Maps.RangeWalk
import Derived.Test.YtdmnmfnmaccmoaaGreatDoorSt4
import Derived.Test.YtdmnmfnmaccmoaaGreatDoorSt5
import Derived.Test.YtdmnmfnmaccmoaaGreatDoorSc8
/- Plain: the laws of the top. -/
namespace Go.Proofs.YtdmnmfnmaccmoaaGreatDoor
theorem mLast_fold {k : Int} {m : Rec} : ∀ (l : List Rec) (x : Rec), (x = m ∨ x.ver < m.ver) → (x = m ∨ m ∈ l) → m.key = k → (∀ r ∈ l, r.key = k → r = m ∨ r.ver < m.ver) → l.foldl (fun x r => if r.key = k ∧ x.ver < r.ver then r else x) x = m
 | [], x, _, h2, _, _ => by
  rcases h2 with h | h
  ·exact h
  ·cases h
 | r :: l, x, hx, h2, hk, hall => by
  rw [List.foldl_cons]
  refine mLast_fold l _ ?_ ?_ hk fun r' hr' => hall r' (List.mem_cons_of_mem _ hr')
  ·split
   ·rename_i h; exact hall r (List.mem_cons_self) h.1
   ·exact hx
  ·rcases h2 with h2 | h2
   ·left
    rw [if_neg]
    ·exact h2
    ·rintro ⟨h3, h4⟩
     rw [h2] at h4
     rcases hall r (List.mem_cons_self) h3 with e | e
     ·rw [e] at h4; omega
     ·omega
   ·rcases List.mem_cons.1 h2 with e | e
    ·left
     subst e
     rcases hx with hx | hx
     ·rw [hx]; split <;> rfl
     ·rw [if_pos ⟨hk, hx⟩]
    ·exact .inr e
theorem mGet_max {l : List Rec} {k : Int} {m : Rec} (hm : m ∈ l) (hk : m.key = k) (hv : 0 < m.ver) (h2 : m.kind = 2) (hall : ∀ r ∈ l, r.key = k → r = m ∨ r.ver < m.ver) : mGet l k = (m.data, 0) := by
 have e : mLast l k = m := mLast_fold l rZero (.inr hv) (.inr hm) hk hall
 unfold mGet
 rw [e, h2]
 rfl
theorem mMax_nn (l : List Rec) : 0 ≤ mMax l := (foldl_max_ge l 0).1
theorem mMax_le {l : List Rec} {n : Int} (h0 : 0 ≤ n) (h : ∀ r ∈ l, r.ver ≤ n) : mMax l ≤ n := by
 unfold mMax
 have : ∀ (l : List Rec) (a : Int), a ≤ n → (∀ r ∈ l, r.ver ≤ n) → l.foldl (fun n r => max n r.ver) a ≤ n := by
  intro l
  induction l with
  | nil => intro a ha _; exact ha
  | cons r l ih =>
   intro a ha hr
   have h1 := hr r (List.mem_cons_self)
   exact ih (max a r.ver) (by omega) fun x hx => hr x (List.mem_cons_of_mem _ hx)
 exact this l 0 h0 h
def dPut7 (k : Int) (b : List UInt8) : Ded := ⟨1, k, 0, b⟩
theorem put_wrong {k : Int} {b : List UInt8} (h1 : 1 ≤ k) (h2 : k ≤ 255) (hb : b.length ≤ 8) : mWrong (dPut7 k b) = 0 := by
 unfold mWrong dPut7
 simp only
 rw [if_neg (by omega), if_neg (by omega), if_neg (by omega)]
theorem deed_tight {s : Sto} (g : tGood s) (d : Ded) : tGood (sDo s d).1 := by
 have := (step_tight g (x := ⟨1, 0, 0, d⟩) (by unfold gentle; rw [if_pos (.inl (by show ¬ (1 : Int) = 3; omega))])).1
 unfold yDo at this
 rwa [if_pos rfl] at this
theorem put_ok {s : Sto} (g : tGood s) {k : Int} {b : List UInt8} (hw : mWrong (dPut7 k b) = 0) (hl : (sRecs s).length < 6) {n : Int} (hn : n < 60000) (h0 : 0 ≤ n) (hv : ∀ r ∈ sRecs s, r.ver ≤ n) :
  (sDo s (dPut7 k b)).2.2 = 0 ∧ (sDo s (dPut7 k b)).2.1 = mNext (sRecs s) ∧ (sRecs (sDo s (dPut7 k b)).1).Perm (sRecs s ++ [⟨2, k, mNext (sRecs s), b⟩]) ∧ tGood (sDo s (dPut7 k b)).1 := by
 obtain ⟨E1, E2, P, _⟩ := store_model g (dPut7 k b) hw
 have hm := mMax_le h0 hv
 have e : mDo (sRecs s) (dPut7 k b) = (sRecs s ++ [mMade (dPut7 k b) (mNext (sRecs s))], mNext (sRecs s), 0) := by
  unfold mDo
  rw [if_neg (by show ¬ (1 : Int) = 3; omega), if_neg (by omega), if_neg (by unfold mNext; omega)]
 rw [e] at E1 E2 P
 exact ⟨E1, E2, P, deed_tight g _⟩
theorem put_get {s : Sto} {l : List Rec} {k : Int} {b : List UInt8} (P : (sRecs s).Perm (l ++ [⟨2, k, mNext l, b⟩])) : sGet s k = (b, 0) := by
 have h0 := mMax_nn l
 refine mGet_max (m := ⟨2, k, mNext l, b⟩) (P.mem_iff.2 (by simp)) rfl (by unfold mNext; show (0 : Int) < mMax l + 1; omega) rfl fun r hr _ => ?_
 rcases List.mem_append.1 (P.mem_iff.1 hr) with h | h
 ·right
  have := mMax_ge l r h
  show r.ver < mMax l + 1
  omega
 ·left; exact List.mem_singleton.1 h
theorem recs_len (s : Sto) : (sRecs s).length = s.index.length := by unfold sRecs; rw [List.length_map]
def fallTo (s : Sto) (d : Ded) (bits : Int) : Nat → Sto
 | 0 => s
 | a + 1 => (yDo (fallTo s d bits a) ⟨2, bits, 0, d⟩).1
theorem fall_inv {s : Sto} (g : tGood s) {b : List UInt8} (bits : Int) (h1 : (sRecs s).length = 1) (hv : ∀ r ∈ sRecs s, r.ver ≤ 1) : ∀ a : Nat, tGood (fallTo s (dPut7 7 b) bits a) ∧ 1 ≤ (sRecs (fallTo s (dPut7 7 b) bits a)).length ∧ (sRecs (fallTo s (dPut7 7 b) bits a)).length ≤ 1 + a ∧ ∀ r ∈ sRecs (fallTo s (dPut7 7 b) bits a), r.ver ≤ 1 + (a : Int)
 | 0 => ⟨g, by show 1 ≤ (sRecs s).length; omega, by show (sRecs s).length ≤ _; omega, fun r hr => by have := hv r hr; omega⟩
 | a + 1 => by
  obtain ⟨g1, l1, l2, v1⟩ := fall_inv g (b := b) bits h1 hv a
  have hg : gentle (fallTo s (dPut7 7 b) bits a) ⟨2, bits, 0, dPut7 7 b⟩ = true := by unfold gentle; rw [if_pos (.inl (by show ¬ (2 : Int) = 3; omega))]
  have g2 := (step_tight g1 hg).1
  refine ⟨g2, ?_⟩
  show 1 ≤ (sRecs (yDo _ _).1).length ∧ (sRecs (yDo _ _).1).length ≤ _ ∧ ∀ r ∈ sRecs (yDo _ _).1, _
  rcases step_recs g1 hg with e | ⟨_, _, h0, P⟩
  ·rw [e]
   exact ⟨l1, by omega, fun r hr => by have := v1 r hr; omega⟩
  ·obtain ⟨_, _, e⟩ := mDo_made (by show ¬ (1 : Int) = 3; omega) h0
   rw [e] at P
   have hl := P.length_eq
   rw [List.length_append] at hl
   have hl : (sRecs (yDo (fallTo s (dPut7 7 b) bits a) ⟨2, bits, 0, dPut7 7 b⟩).1).length = (sRecs (fallTo s (dPut7 7 b) bits a)).length + 1 := hl
   refine ⟨by omega, by omega, fun r hr => ?_⟩
   have hm := mMax_le (l := sRecs (fallTo s (dPut7 7 b) bits a)) (n := 1 + (a : Int)) (by omega) v1
   rcases List.mem_append.1 (P.mem_iff.1 hr) with h | h
   ·have := v1 r h; omega
   ·rw [List.mem_singleton.1 h]
    show mMax _ + 1 ≤ _
    omega
theorem top_fall {s : Sto} (g : tGood s) {b : List UInt8} (hb : b.length ≤ 8) (bits : Int) (h1 : (sRecs s).length = 1) (hv : ∀ r ∈ sRecs s, r.ver ≤ 1) {a : Nat} (ha : a ≤ 3) :
  (sDo (fallTo s (dPut7 7 b) bits a) (dPut7 7 b)).2.2 = 0 ∧ sGet (sDo (fallTo s (dPut7 7 b) bits a) (dPut7 7 b)).1 7 = (b, 0) ∧ tGood (sDo (fallTo s (dPut7 7 b) bits a) (dPut7 7 b)).1 ∧
   2 ≤ (sDo (fallTo s (dPut7 7 b) bits a) (dPut7 7 b)).1.index.length ∧ (sDo (fallTo s (dPut7 7 b) bits a) (dPut7 7 b)).1.index.length ≤ 2 + a := by
 obtain ⟨g1, l1, l2, v1⟩ := fall_inv g (b := b) bits h1 hv a
 obtain ⟨e1, _, P, g2⟩ := put_ok g1 (k := 7) (b := b) (put_wrong (by omega) (by omega) hb) (by omega) (n := 1 + (a : Int)) (by omega) (by omega) v1
 have hl := P.length_eq
 rw [List.length_append, recs_len] at hl
 have hl : (sDo (fallTo s (dPut7 7 b) bits a) (dPut7 7 b)).1.index.length = (sRecs (fallTo s (dPut7 7 b) bits a)).length + 1 := hl
 exact ⟨e1, put_get P, g2, by omega, by omega⟩
def bTo (ds : List (List UInt8)) : Nat → Sto
 | 0 => sNew
 | a + 1 => (sDo (bTo ds a) (dPut7 7 (ds.getD a []))).1
def mkR (ds : List (List UInt8)) (a : Nat) : List Rec := (List.range a).map fun j : Nat => (⟨2, 7, (j : Int) + 1, ds.getD j []⟩ : Rec)
theorem mkR_succ (ds : List (List UInt8)) (a : Nat) : mkR ds (a + 1) = mkR ds a ++ [⟨2, 7, (a : Int) + 1, ds.getD a []⟩] := by
 unfold mkR
 rw [List.range_succ, List.map_append]
 rfl
theorem mkR_mem {ds : List (List UInt8)} {a : Nat} {r : Rec} (h : r ∈ mkR ds a) : ∃ j : Nat, j < a ∧ r = ⟨2, 7, (j : Int) + 1, ds.getD j []⟩ := by
 obtain ⟨j, hj, rfl⟩ := List.mem_map.1 h
 exact ⟨j, List.mem_range.1 hj, rfl⟩
theorem mkR_len (ds : List (List UInt8)) (a : Nat) : (mkR ds a).length = a := by unfold mkR; rw [List.length_map, List.length_range]
theorem mkR_ver {ds : List (List UInt8)} {a : Nat} {l : List Rec} (P : l.Perm (mkR ds a)) : ∀ r ∈ l, r.ver ≤ (a : Int) := by
 intro r hr
 obtain ⟨j, hj, e⟩ := mkR_mem (P.mem_iff.1 hr)
 rw [e]
 show (j : Int) + 1 ≤ a
 omega
theorem mkR_next {ds : List (List UInt8)} {a : Nat} {l : List Rec} (P : l.Perm (mkR ds a)) : mNext l = (a : Int) + 1 := by
 have h1 := mMax_le (l := l) (n := (a : Int)) (by omega) (mkR_ver P)
 have h2 := mMax_nn l
 unfold mNext
 rcases Nat.eq_zero_or_pos a with h | h
 ·omega
 ·obtain ⟨c, rfl⟩ : ∃ c, a = c + 1 := ⟨a - 1, by omega⟩
  have h3 := mMax_ge l ⟨2, 7, (c : Int) + 1, ds.getD c []⟩ (P.mem_iff.2 (by rw [mkR_succ]; simp))
  have h3 : (c : Int) + 1 ≤ mMax l := h3
  omega
theorem back_put {ds : List (List UInt8)} (hd : ∀ i, (ds.getD i []).length ≤ 8) : ∀ a : Nat, a ≤ 6 → tGood (bTo ds a) ∧ (sRecs (bTo ds a)).Perm (mkR ds a)
 | 0, _ => ⟨new_tight, by
  have e : sRecs sNew = [] := by decide +kernel
  show (sRecs sNew).Perm []
  rw [e]⟩
 | a + 1, h => by
  obtain ⟨g, P⟩ := back_put hd a (by omega)
  obtain ⟨_, _, P2, g2⟩ := put_ok g (k := 7) (b := ds.getD a []) (put_wrong (by omega) (by omega) (hd a)) (by rw [P.length_eq, mkR_len]; omega) (n := (a : Int)) (by omega) (by omega) (mkR_ver P)
  refine ⟨g2, ?_⟩
  rw [mkR_succ]
  rw [mkR_next P] at P2
  exact P2.trans (P.append_right _)
theorem back_ok {ds : List (List UInt8)} (hd : ∀ i, (ds.getD i []).length ≤ 8) {a : Nat} (h : a < 6) : (sDo (bTo ds a) (dPut7 7 (ds.getD a []))).2.2 = 0 ∧ (sDo (bTo ds a) (dPut7 7 (ds.getD a []))).2.1 = (a : Int) + 1 := by
 obtain ⟨g, P⟩ := back_put hd a (by omega)
 obtain ⟨e1, e2, _, _⟩ := put_ok g (k := 7) (b := ds.getD a []) (put_wrong (by omega) (by omega) (hd a)) (by rw [P.length_eq, mkR_len]; omega) (n := (a : Int)) (by omega) (by omega) (mkR_ver P)
 exact ⟨e1, by rw [e2, mkR_next P]⟩
theorem erase_perm : ∀ (l : List Rec) (i : Nat) (h : i < l.length), (l[i] :: l.eraseIdx i).Perm l
 | [], i, h => absurd h (by simp)
 | x :: l, 0, _ => List.Perm.refl _
 | x :: l, i + 1, h => by
  show (l[i]'(by simpa using h) :: x :: l.eraseIdx i).Perm (x :: l)
  exact (List.Perm.swap _ _ _).trans ((erase_perm l i (by simpa using h)).cons x)
theorem take_back {s : Sto} (g : tGood s) {ds : List (List UInt8)} {a : Nat} (ha : a < 6) (P : (sRecs s).Perm (mkR ds (a + 1))) :
  sGet s 7 = (ds.getD a [], 0) ∧ (sDo s ⟨3, 7, (a : Int) + 1, []⟩).2.2 = 0 ∧ tGood (sDo s ⟨3, 7, (a : Int) + 1, []⟩).1 ∧ (sRecs (sDo s ⟨3, 7, (a : Int) + 1, []⟩).1).Perm (mkR ds a) := by
 have hm : (⟨2, 7, (a : Int) + 1, ds.getD a []⟩ : Rec) ∈ sRecs s := P.mem_iff.2 (by rw [mkR_succ]; simp)
 have hw : mWrong ⟨3, 7, (a : Int) + 1, []⟩ = 0 := by
  unfold mWrong
  simp only
  rw [if_neg (by omega), if_neg (by omega), if_neg (by simp)]
 obtain ⟨E1, _, P2, _⟩ := store_model g ⟨3, 7, (a : Int) + 1, []⟩ hw
 have hi : mIdx (sRecs s) 7 ((a : Int) + 1) < (sRecs s).length := mIdx_lt.2 ⟨_, hm, (mHit_iff _ _ _).2 ⟨rfl, rfl⟩⟩
 have e : mDo (sRecs s) ⟨3, 7, (a : Int) + 1, []⟩ = ((sRecs s).eraseIdx (mIdx (sRecs s) 7 ((a : Int) + 1)), (a : Int) + 1, 0) := by
  unfold mDo
  rw [if_pos rfl]
  exact if_pos hi
 rw [e] at E1 P2
 refine ⟨?_, E1, deed_tight g _, P2.trans ?_⟩
 ·refine mGet_max hm rfl (by show (0 : Int) < (a : Int) + 1; omega) rfl fun r hr _ => ?_
  have h1 := P.mem_iff.1 hr
  rw [mkR_succ] at h1
  rcases List.mem_append.1 h1 with h | h
  ·right
   obtain ⟨j, hj, e⟩ := mkR_mem h
   rw [e]
   show (j : Int) + 1 < (a : Int) + 1
   omega
  ·left; exact List.mem_singleton.1 h
 ·have h1 := erase_perm (sRecs s) _ hi
  have hx : (sRecs s)[mIdx (sRecs s) 7 ((a : Int) + 1)] = ⟨2, 7, (a : Int) + 1, ds.getD a []⟩ := by
   have hh : mHit 7 ((a : Int) + 1) ((sRecs s)[mIdx (sRecs s) 7 ((a : Int) + 1)]) = true := List.findIdx_getElem (w := hi)
   have hv := ((mHit_iff _ _ _).1 hh).2
   obtain ⟨j, hj, e⟩ := mkR_mem (P.mem_iff.1 (List.getElem_mem hi))
   rw [e] at hv ⊢
   have hv : (j : Int) + 1 = (a : Int) + 1 := hv
   obtain rfl : j = a := by omega
   rfl
  rw [hx] at h1
  rw [mkR_succ] at P
  exact List.Perm.cons_inv (h1.trans (P.trans (List.perm_append_singleton _ _)))
def dNo : Ded := ⟨0, 0, 0, []⟩
theorem gentle_kind {s : Sto} {x : Stp} (h : x.kind ≠ 3) : gentle s x = true := by unfold gentle; rw [if_pos (.inl h)]
theorem spoil_is {s : Sto} (g : sGood s) {n m : Int} (h0 : 0 ≤ n) (h1 : n < 192) : (yDo s ⟨3, n, m, dNo⟩).1 = ⟨dSpoil s.disk (n / 16) (n % 16) m, s.index, s.next⟩ := by
 unfold yDo
 rw [if_neg (by show ¬ (3 : Int) = 1; omega), if_neg (by show ¬ (3 : Int) = 2; omega), if_pos rfl, if_neg]
 rw [g.disk.len]
 show ¬ (n < 0 ∨ 16 * ((12 : Nat) : Int) ≤ n)
 omega
theorem mount_of {s : Sto} : (yDo s ⟨6, 0, 0, dNo⟩).1 = sMount s.disk := by
 unfold yDo
 rw [if_neg (by show ¬ (6 : Int) = 1; omega), if_neg (by show ¬ (6 : Int) = 2; omega), if_neg (by show ¬ (6 : Int) = 3; omega), if_neg (by show ¬ (6 : Int) = 4; omega), if_neg (by show ¬ (6 : Int) = 5; omega), if_pos rfl]
theorem scrub_of {s : Sto} : (yDo s ⟨4, 0, 0, dNo⟩).1 = (scOne s).1 := by
 unfold yDo
 rw [if_neg (by show ¬ (4 : Int) = 1; omega), if_neg (by show ¬ (4 : Int) = 2; omega), if_neg (by show ¬ (4 : Int) = 3; omega), if_pos rfl]
theorem spoil_other {d : Dsk} (h : dGood d) (k n y : Int) {q : Nat} (hq : q < 6) (h1 : 2 * (q : Int) ≠ k) (h2 : 2 * (q : Int) + 1 ≠ k) : pLook (dSpoil d k n y) q = pLook d q := by
 have hG := spoil_good h k n y
 have hlen : (dSpoil d k n y).blocks.length = d.blocks.length := by rw [hG.len, h.len]
 have hget : ∀ j : Nat, j < 12 → (j : Int) ≠ k → dGet (dSpoil d k n y) j = dGet d j := by
  intro j hj hjk
  rw [hG.get hj, h.get hj]
  congr 1
  unfold dSpoil
  split
  ·show (d.blocks.set _ _).getD j [] = _
   rw [getD_set, if_neg (by omega)]
  ·rfl
 have e1 := hget (2 * q) (by omega) (by omega)
 have e2 := hget (2 * q + 1) (by omega) (by omega)
 have c1 : (((2 * q : Nat)) : Int) = 2 * (q : Int) := by omega
 have c2 : (((2 * q + 1 : Nat)) : Int) = 2 * (q : Int) + 1 := by omega
 rw [c1] at e1
 rw [c2] at e2
 have hp : pIn (dSpoil d k n y) q ↔ pIn d q := by unfold pIn; rw [hlen]
 unfold pLook pSide
 rw [e1, e2]
 by_cases hh : pIn d q
 ·rw [if_pos hh, if_pos (hp.2 hh)]
 ·rw [if_neg hh, if_neg (fun h => hh (hp.1 h))]
structure Still (s0 s : Sto) : Prop where
 tight : tGood s
 index : s.index = s0.index
 how : ∀ q : Nat, q < 6 → (pLook s.disk q).1 < 2
def rotSp (n : List Int) (y : Int) (s : Sto) : Nat → Sto
 | 0 => s
 | p + 1 => (yDo (rotSp n y s p) ⟨3, 32 * (p : Int) + n.getD p 0, y, dNo⟩).1
theorem still_index {s : Sto} (g : tGood s) {x : Stp} (hx : gentle s x = true) (h1 : x.kind ≠ 1) (h2 : x.kind ≠ 2) : (yDo s x).1.index = s.index := by
 rcases (step_tight g hx).2.1 with e | ⟨e, _, _⟩
 ·exact e
 ·rcases e with e | e
  ·exact absurd e h1
  ·exact absurd e h2
theorem rot_spoil {s0 s : Sto} (h : Still s0 s) {n : List Int} (hn : ∀ p, 0 ≤ n.getD p 0 ∧ n.getD p 0 < 32) (y : Int) : ∀ p : Nat, p ≤ 6 →
  tGood (rotSp n y s p) ∧ (rotSp n y s p).index = s0.index ∧ ∀ q : Nat, p ≤ q → q < 6 → pLook (rotSp n y s p).disk q = pLook s.disk q
 | 0, _ => ⟨h.tight, h.index, fun _ _ _ => rfl⟩
 | p + 1, hp => by
  obtain ⟨g, hi, hl⟩ := rot_spoil h hn y p (by omega)
  obtain ⟨n0, n1⟩ := hn p
  have e32 : (32 * (p : Int) + n.getD p 0) / 32 = (p : Int) := by omega
  have hg : gentle (rotSp n y s p) ⟨3, 32 * (p : Int) + n.getD p 0, y, dNo⟩ = true := by
   unfold gentle
   rw [if_neg]
   ·show decide ((pLook (rotSp n y s p).disk ((32 * (p : Int) + n.getD p 0) / 32)).1 < 2) = true
    rw [e32, hl p (Nat.le_refl _) (by omega)]
    exact decide_eq_true (h.how p (by omega))
   ·rw [g.good.disk.len]
    show ¬ ((3 : Int) ≠ 3 ∨ 32 * (p : Int) + n.getD p 0 < 0 ∨ 16 * ((12 : Nat) : Int) ≤ 32 * (p : Int) + n.getD p 0)
    omega
  refine ⟨(step_tight g hg).1, ?_, fun q hq hq6 => ?_⟩
  ·show (yDo _ _).1.index = _
   rw [still_index g hg (by show (3 : Int) ≠ 1; omega) (by show (3 : Int) ≠ 2; omega), hi]
  ·show pLook (yDo _ _).1.disk q = _
   rw [spoil_is g.good (by omega) (by omega)]
   show pLook (dSpoil _ _ _ _) q = _
   rw [spoil_other g.good.disk _ _ _ hq6 (by omega) (by omega), hl q (by omega) hq6]
theorem sc_tight {s : Sto} (g : tGood s) : ∀ a : Nat, tGood (scTo s a).1 ∧ (scTo s a).1.index = s.index
 | 0 => ⟨g, rfl⟩
 | a + 1 => by
  obtain ⟨g1, e1⟩ := sc_tight g a
  have hg : gentle (scTo s a).1 ⟨4, 0, 0, dNo⟩ = true := gentle_kind (by show (4 : Int) ≠ 3; omega)
  have g2 := (step_tight g1 hg).1
  have e2 := still_index g1 hg (by show (4 : Int) ≠ 1; omega) (by show (4 : Int) ≠ 2; omega)
  rw [scrub_of] at g2 e2
  exact ⟨g2, e2.trans e1⟩
def rotTo (n : List Int) (y : Int) (s : Sto) : Nat → Sto
 | 0 => s
 | a + 1 => (scTo (sMount (rotSp n y (rotTo n y s a) 6).disk) 6).1
theorem rot_round {s0 s : Sto} (h : Still s0 s) {n : List Int} (hn : ∀ p, 0 ≤ n.getD p 0 ∧ n.getD p 0 < 32) (y : Int) :
  tGood (sMount (rotSp n y s 6).disk) ∧ (sMount (rotSp n y s 6).disk).index = s0.index ∧ Still s0 (scTo (sMount (rotSp n y s 6).disk) 6).1 := by
 obtain ⟨g, hi, _⟩ := rot_spoil h hn y 6 (Nat.le_refl _)
 have hg : gentle (rotSp n y s 6) ⟨6, 0, 0, dNo⟩ = true := gentle_kind (by show (6 : Int) ≠ 3; omega)
 have g2 := (step_tight g hg).1
 rw [mount_of] at g2
 have e2 : (sMount (rotSp n y s 6).disk).index = s0.index := (play_fits g).2.2.trans hi
 obtain ⟨g3, e3⟩ := sc_tight g2 6
 refine ⟨g2, e2, g3, e3.trans e2, fun q hq => ?_⟩
 rcases scAll_how g2.good q hq with e | e <;> rw [e] <;> omega
theorem rot_still {s : Sto} (h : Still s s) {n : List Int} (hn : ∀ p, 0 ≤ n.getD p 0 ∧ n.getD p 0 < 32) (y : Int) : ∀ a : Nat, Still s (rotTo n y s a)
 | 0 => h
 | a + 1 => (rot_round (rot_still h hn y a) hn y).2.2
def sRot : Sto := (sDo (sDo (sDo (sDo sNew ⟨1, 7, 0, [97, 98]⟩).1 ⟨1, 8, 0, [99]⟩).1 ⟨2, 7, 0, []⟩).1 ⟨1, 9, 0, []⟩).1
theorem sRot_all : ((List.range 6).all fun q => decide ((pLook sRot.disk (q : Int)).1 < 2)) = true := by decide +kernel
theorem sRot_len : sRot.index.length = 4 := by decide +kernel
theorem sRot_still : Still sRot sRot := ⟨deed_tight (deed_tight (deed_tight (deed_tight new_tight _) _) _) _, rfl, fun q hq => of_decide_eq_true (List.all_eq_true.1 sRot_all q (List.mem_range.2 hq))⟩
def HasMax (l : List Rec) (k : Int) (b : List UInt8) : Prop := ∃ m ∈ l, m.key = k ∧ 0 < m.ver ∧ m.kind = 2 ∧ m.data = b ∧ ∀ r ∈ l, r.key = k → r = m ∨ r.ver < m.ver
def NoKey (l : List Rec) (k : Int) : Prop := ∀ r ∈ l, r.key ≠ k
theorem HasMax.get {l : List Rec} {k : Int} {b : List UInt8} (h : HasMax l k b) : mGet l k = (b, 0) := by
 obtain ⟨m, hm, h1, h2, h3, h4, h5⟩ := h
 rw [mGet_max hm h1 h2 h3 h5, h4]
theorem NoKey.get {l : List Rec} {k : Int} (h : NoKey l k) : mGet l k = ([], 6) := by
 unfold mGet
 rw [mLast_none h]
 rfl
theorem HasMax.other {l l' : List Rec} {k : Int} {b : List UInt8} {x : Rec} (h : HasMax l k b) (P : l'.Perm (l ++ [x])) (hx : x.key ≠ k) : HasMax l' k b := by
 obtain ⟨m, hm, h1, h2, h3, h4, h5⟩ := h
 refine ⟨m, P.mem_iff.2 (List.mem_append_left _ hm), h1, h2, h3, h4, fun r hr hk => ?_⟩
 rcases List.mem_append.1 (P.mem_iff.1 hr) with h | h
 ·exact h5 r h hk
 ·rw [List.mem_singleton.1 h] at hk
  exact absurd hk hx
theorem NoKey.other {l l' : List Rec} {k : Int} {x : Rec} (h : NoKey l k) (P : l'.Perm (l ++ [x])) (hx : x.key ≠ k) : NoKey l' k := fun r hr => by
 rcases List.mem_append.1 (P.mem_iff.1 hr) with h' | h'
 ·exact h r h'
 ·rw [List.mem_singleton.1 h']; exact hx
theorem HasMax.made {l l' : List Rec} {k : Int} {b : List UInt8} (P : l'.Perm (l ++ [⟨2, k, mNext l, b⟩])) : HasMax l' k b := by
 have h0 := mMax_nn l
 refine ⟨⟨2, k, mNext l, b⟩, P.mem_iff.2 (by simp), rfl, by unfold mNext; show (0 : Int) < mMax l + 1; omega, rfl, rfl, fun r hr _ => ?_⟩
 rcases List.mem_append.1 (P.mem_iff.1 hr) with h | h
 ·right
  have := mMax_ge l r h
  show r.ver < mMax l + 1
  omega
 ·left; exact List.mem_singleton.1 h
def dEach (keys : List Int) (i : Nat) : Ded := dPut7 (keys.getD i 0) [b8 i, b8 (keys.getD i 0)]
def eTo (keys : List Int) (bits : Int) : Nat → Sto
 | 0 => sNew
 | i + 1 => (sDo (yDo (eTo keys bits i) ⟨2, bits, 0, dEach keys i⟩).1 (dEach keys i)).1
def wTo (keys : List Int) : Nat → Int → Option (List UInt8)
 | 0, _ => none
 | i + 1, k => if k = keys.getD i 0 then some [b8 i, b8 k] else wTo keys i k
structure Each (keys : List Int) (i : Nat) (s : Sto) : Prop where
 tight : tGood s
 len : (sRecs s).length ≤ 2 * i
 ver : ∀ r ∈ sRecs s, r.ver ≤ 2 * (i : Int)
 got : ∀ k b, wTo keys i k = some b → HasMax (sRecs s) k b
 not : ∀ k, wTo keys i k = none → NoKey (sRecs s) k
theorem each_step {keys : List Int} {i : Nat} (hi : i < 3) (hk : 1 ≤ keys.getD i 0 ∧ keys.getD i 0 ≤ 255) {s : Sto} (h : Each keys i s) (bits : Int) :
  tGood (yDo s ⟨2, bits, 0, dEach keys i⟩).1 ∧ (sDo (yDo s ⟨2, bits, 0, dEach keys i⟩).1 (dEach keys i)).2.2 = 0 ∧ Each keys (i + 1) (sDo (yDo s ⟨2, bits, 0, dEach keys i⟩).1 (dEach keys i)).1 := by
 have hw : mWrong (dEach keys i) = 0 := put_wrong hk.1 hk.2 (by simp)
 have hg : gentle s ⟨2, bits, 0, dEach keys i⟩ = true := gentle_kind (by show (2 : Int) ≠ 3; omega)
 have g1 := (step_tight h.tight hg).1
 have hy : (sRecs (yDo s ⟨2, bits, 0, dEach keys i⟩).1).length ≤ 2 * i + 1 ∧ (∀ r ∈ sRecs (yDo s ⟨2, bits, 0, dEach keys i⟩).1, r.ver ≤ 2 * (i : Int) + 1) ∧
   (∀ k b, k ≠ keys.getD i 0 → HasMax (sRecs s) k b → HasMax (sRecs (yDo s ⟨2, bits, 0, dEach keys i⟩).1) k b) ∧ (∀ k, k ≠ keys.getD i 0 → NoKey (sRecs s) k → NoKey (sRecs (yDo s ⟨2, bits, 0, dEach keys i⟩).1) k) := by
  rcases step_recs h.tight hg with e | ⟨_, _, h0, P⟩
  ·rw [e]
   exact ⟨by have := h.len; omega, fun r hr => by have := h.ver r hr; omega, fun _ _ _ h => h, fun _ _ h => h⟩
  ·obtain ⟨_, _, e⟩ := mDo_made (by show ¬ (1 : Int) = 3; omega) h0
   rw [e] at P
   have P : (sRecs (yDo s ⟨2, bits, 0, dEach keys i⟩).1).Perm (sRecs s ++ [mMade (dEach keys i) (mNext (sRecs s))]) := P
   refine ⟨by have := h.len; rw [P.length_eq, List.length_append]; show _ + 1 ≤ _; omega, fun r hr => ?_, fun k b hk h => h.other P (fun e => hk e.symm), fun k hk h => h.other P (fun e => hk e.symm)⟩
   have hm := mMax_le (l := sRecs s) (n := 2 * (i : Int)) (by omega) h.ver
   rcases List.mem_append.1 (P.mem_iff.1 hr) with h' | h'
   ·have := h.ver r h'; omega
   ·rw [List.mem_singleton.1 h']
    show mMax _ + 1 ≤ _
    omega
 obtain ⟨y1, y2, y3, y4⟩ := hy
 obtain ⟨e1, _, P, g2⟩ := put_ok g1 (k := keys.getD i 0) (b := [b8 i, b8 (keys.getD i 0)]) hw (by omega) (n := 2 * (i : Int) + 1) (by omega) (by omega) y2
 refine ⟨g1, e1, g2, ?_, fun r hr => ?_, fun k b hb => ?_, fun k hb => ?_⟩
 ·show (sRecs (sDo _ (dPut7 _ _)).1).length ≤ _
  rw [P.length_eq, List.length_append]
  show _ + 1 ≤ _
  omega
 ·have hm := mMax_le (l := sRecs (yDo s ⟨2, bits, 0, dEach keys i⟩).1) (n := 2 * (i : Int) + 1) (by omega) y2
  rcases List.mem_append.1 (P.mem_iff.1 hr) with h' | h'
  ·have := y2 r h'; omega
  ·rw [List.mem_singleton.1 h']
   show mMax _ + 1 ≤ _
   omega
 ·unfold wTo at hb
  by_cases hkk : k = keys.getD i 0
  ·rw [if_pos hkk] at hb
   injection hb with hb
   subst hb
   subst hkk
   exact HasMax.made P
  ·rw [if_neg hkk] at hb
   exact (y3 k b hkk (h.got k b hb)).other P (fun e => hkk e.symm)
 ·unfold wTo at hb
  by_cases hkk : k = keys.getD i 0
  ·rw [if_pos hkk] at hb
   cases hb
  ·rw [if_neg hkk] at hb
   exact (y4 k hkk (h.not k hb)).other P (fun e => hkk e.symm)
theorem each_new (keys : List Int) : Each keys 0 sNew := by
 have e : sRecs sNew = [] := by decide +kernel
 refine ⟨new_tight, by rw [e]; simp, fun r hr => ?_, fun k b hb => ?_, fun k _ r hr => ?_⟩
 ·rw [e] at hr; cases hr
 ·cases hb
 ·rw [e] at hr; cases hr
theorem each_all {keys : List Int} {bits : Int} {n : Nat} (hn : n ≤ 3) (hk : ∀ i, i < n → 1 ≤ keys.getD i 0 ∧ keys.getD i 0 ≤ 255) : ∀ i, i ≤ n → Each keys i (eTo keys bits i)
 | 0, _ => each_new keys
 | i + 1, h => (each_step (by omega) (hk i (by omega)) (each_all hn hk i (by omega)) bits).2.2
def kdTo (keys : List Int) : Nat → List Int
 | 0 => []
 | i + 1 => if keys.getD i 0 ∈ kdTo keys i then kdTo keys i else kdTo keys i ++ [keys.getD i 0]
theorem kd_mem (keys : List Int) (k : Int) : ∀ i, k ∈ kdTo keys i ↔ (wTo keys i k).isSome = true
 | 0 => by simp [kdTo, wTo]
 | i + 1 => by
  have ih := kd_mem keys k i
  unfold kdTo wTo
  by_cases hk : k = keys.getD i 0
  ·rw [if_pos hk]
   split
   ·rename_i h; rw [hk]; exact ⟨fun _ => rfl, fun _ => h⟩
   ·rw [hk]; simp
  ·rw [if_neg hk, ← ih]
   split
   ·rfl
   ·rw [List.mem_append, List.mem_singleton]
    exact ⟨fun h => h.resolve_right hk, .inl⟩
theorem kd_nodup (keys : List Int) : ∀ i, (kdTo keys i).Nodup
 | 0 => List.nodup_nil
 | i + 1 => by
  unfold kdTo
  split
  ·exact kd_nodup keys i
  ·rename_i h
   rw [List.nodup_append]
   exact ⟨kd_nodup keys i, by simp, fun a ha b hb e => by rw [List.mem_singleton.1 hb] at e; subst e; exact h ha⟩
theorem kd_range {keys : List Int} {n : Nat} (hk : ∀ i, i < n → 1 ≤ keys.getD i 0 ∧ keys.getD i 0 ≤ 255) : ∀ i, i ≤ n → ∀ k ∈ kdTo keys i, 1 ≤ k ∧ k ≤ 255
 | 0, _, k, h => by cases h
 | i + 1, hi, k, h => by
  unfold kdTo at h
  split at h
  ·exact kd_range hk i (by omega) k h
  ·rcases List.mem_append.1 h with h | h
   ·exact kd_range hk i (by omega) k h
   ·rw [List.mem_singleton.1 h]; exact hk i (by omega)
theorem each_list {keys : List Int} {n : Nat} (hk : ∀ i, i < n → 1 ≤ keys.getD i 0 ∧ keys.getD i 0 ≤ 255) {s : Sto} (h : Each keys n s) : (sList s 1 99).length = (kdTo keys n).length := by
 have hall : sList s 1 99 = kAll s := by
  rw [sList_eq h.tight.good.right, List.filter_eq_self.2, List.take_of_length_le]
  ·have h1 := kAll_length h.tight.good.right
   have h2 := index_six h.tight.good
   have h3 : (99 : Int).toNat = 99 := rfl
   omega
  ·intro k hk
   exact decide_eq_true ((kRange_mem k).1 (List.mem_filter.1 hk).1).1
 rw [hall]
 have hnd : (kAll s).Nodup := (kAll_sorted s).imp (fun h => by intro e; omega)
 refine (List.Perm.length_eq ?_)
 rw [List.perm_ext_iff_of_nodup hnd (kd_nodup keys n)]
 intro k
 constructor
 ·intro hk
  rw [kd_mem]
  cases hw : wTo keys n k with
  | some b => rfl
  | none =>
   have h1 := kAll_ok hk
   unfold sOk sGet at h1
   rw [(h.not k hw).get] at h1
   exact absurd h1 (by decide)
 ·intro hkd
  have h1 := kd_range hk n (Nat.le_refl _) k hkd
  have h2 := (kd_mem keys k n).1 hkd
  obtain ⟨b, hb⟩ := Option.isSome_iff_exists.1 h2
  refine List.mem_filter.2 ⟨(kRange_mem k).2 h1, ?_⟩
  unfold sOk sGet
  rw [(h.got k b hb).get]
  rfl
end Go.Proofs.YtdmnmfnmaccmoaaGreatDoor
/- Plain: stores behind deeds' texts (the top). -/
namespace Go.Proofs.YtdmnmfnmaccmoaaGreatDoor
open Go Go.RowKit
def dTo (ds : List Ded) : Nat → Sto
 | 0 => sNew
 | i + 1 => (sDo (dTo ds i) (ds.getD i dZ)).1
theorem dTo_tight (ds : List Ded) : ∀ i, tGood (dTo ds i)
 | 0 => new_tight
 | i + 1 => deed_tight (dTo_tight ds i) _
theorem do_is (s : Sto) (d : Ded) : yDo s ⟨1, 0, 0, d⟩ = sDo s d := if_pos rfl
theorem print_le {d : Ded} (h : mWrong d = 0) : (tPrint d).length ≤ 1000000000 := by
 obtain ⟨hk, k0, k1, hn, hn0, hl, hdd⟩ := mWrong_zero h
 have i1 := Lib.itoa_length_le d.key (by omega) (by omega)
 have i2 := hex_le d.data
 unfold tPrint
 split
 ·simp [wPut]; omega
 ·split
  ·simp [wDelete]; omega
  ·obtain ⟨n0, n1⟩ := hn (by omega)
   have i3 := Lib.itoa_length_le d.n (by omega) (by omega)
   simp [wPurge]; omega
structure Runs (ds : List Ded) : Prop where
 right : ∀ i, i < ds.length → mWrong (ds.getD i dZ) = 0
 ok : ∀ i, i < ds.length → (sDo (dTo ds i) (ds.getD i dZ)).2.2 = 0
theorem runs_of {ds : List Ded} (h : ((List.range ds.length).all fun i => decide (mWrong (ds.getD i dZ) = 0) && decide ((sDo (dTo ds i) (ds.getD i dZ)).2.2 = 0)) = true) : Runs ds := by
 rw [List.all_eq_true] at h
 constructor
 ·intro i hi
  have := h i (List.mem_range.2 hi)
  rw [Bool.and_eq_true] at this
  exact of_decide_eq_true this.1
 ·intro i hi
  have := h i (List.mem_range.2 hi)
  rw [Bool.and_eq_true] at this
  exact of_decide_eq_true this.2
def wA : List Ded := [⟨1, 7, 0, [97, 98]⟩, ⟨1, 8, 0, []⟩]
def wF : List Ded := [⟨1, 7, 0, [97, 98]⟩]
def wR : List Ded := [⟨1, 7, 0, [97, 98]⟩, ⟨1, 8, 0, [99]⟩, ⟨2, 7, 0, []⟩, ⟨1, 9, 0, []⟩]
theorem wA_runs : Runs wA := runs_of (by decide +kernel)
theorem wF_runs : Runs wF := runs_of (by decide +kernel)
theorem wR_runs : Runs wR := runs_of (by decide +kernel)
theorem itoa_one {n : Nat} (h : n < 10) : Lib.itoa (n : Int) = [UInt8.ofNat (48 + n)] := by rw [itoa_nat, Lib.decDigits, dif_pos h]
theorem itoa_ones : Lib.itoa 7 = [55] ∧ Lib.itoa 8 = [56] ∧ Lib.itoa 9 = [57] := ⟨itoa_one (n := 7) (by decide), itoa_one (n := 8) (by decide), itoa_one (n := 9) (by decide)⟩
theorem wA_is : wA.map tPrint = [[112, 117, 116, 32, 55, 32, 54, 49, 54, 50], [112, 117, 116, 32, 56, 32, 45]] := by
 obtain ⟨e7, e8, _⟩ := itoa_ones
 unfold wA tPrint
 simp only [List.map_cons, List.map_nil, e7, e8]
 decide +kernel
theorem wF_is : wF.map tPrint = [[112, 117, 116, 32, 55, 32, 54, 49, 54, 50]] := by
 obtain ⟨e7, _, _⟩ := itoa_ones
 unfold wF tPrint
 simp only [List.map_cons, List.map_nil, e7]
 decide +kernel
theorem wR_is : wR.map tPrint = [[112, 117, 116, 32, 55, 32, 54, 49, 54, 50], [112, 117, 116, 32, 56, 32, 54, 51], [100, 101, 108, 101, 116, 101, 32, 55], [112, 117, 116, 32, 57, 32, 45]] := by
 obtain ⟨e7, e8, e9⟩ := itoa_ones
 unfold wR tPrint
 simp only [List.map_cons, List.map_nil, e7, e8, e9]
 decide +kernel
theorem wA_get : sGet (dTo wA 2) 7 = ([97, 98], 0) := by decide +kernel
theorem wA_list : (sList (dTo wA 2) 1 9).length = 2 := by decide +kernel
theorem wF_len : (sRecs (dTo wF 1)).length = 1 := by decide +kernel
theorem wF_ver : ∀ r ∈ sRecs (dTo wF 1), r.ver ≤ 1 := by decide +kernel
theorem wR_is_rot : dTo wR 4 = sRot := rfl
end Go.Proofs.YtdmnmfnmaccmoaaGreatDoor
/- Plain: what the laws of the top ask of lists and maps. -/
namespace Go.Proofs.YtdmnmfnmaccmoaaGreatDoor
open Go Go.RowKit
def dsq (ds : List (List UInt8)) : List (List UInt8) := ds.map fun b => if b.length ≤ 8 then b else []
theorem dsq_get (ds : List (List UInt8)) (i : Nat) : (dsq ds).getD i [] = if (ds.getD i []).length ≤ 8 then ds.getD i [] else [] := by
 unfold dsq
 rw [List.getD_eq_getElem?_getD, List.getD_eq_getElem?_getD, List.getElem?_map]
 cases ds[i]? <;> simp
theorem dsq_le (ds : List (List UInt8)) (i : Nat) : ((dsq ds).getD i []).length ≤ 8 := by
 rw [dsq_get]
 split
 ·assumption
 ·simp
theorem dsq_at {ds : List (List UInt8)} {i : Nat} (h : (ds.getD i []).length ≤ 8) : (dsq ds).getD i [] = ds.getD i [] := by rw [dsq_get, if_pos h]
def mkN (a : Nat) : List Int := (List.range a).map fun j : Nat => (j : Int) + 1
theorem mkN_succ (a : Nat) : mkN (a + 1) = mkN a ++ [(a : Int) + 1] := by
 unfold mkN
 rw [List.range_succ, List.map_append]
 rfl
theorem mkN_len (a : Nat) : (mkN a).length = a := by unfold mkN; rw [List.length_map, List.length_range]
theorem mkN_at {a k : Nat} (h : k < a) : (mkN a).getD k 0 = (k : Int) + 1 := by
 unfold mkN
 rw [getD_map _ (0 : Nat) _ _ _ (by rw [List.length_range]; exact h), List.getD_eq_getElem?_getD, List.getElem?_range h]
 rfl
theorem back_step {ds : List (List UInt8)} {a : Nat} (h : a < 6) (hb : (ds.getD a []).length ≤ 8) :
  (sDo (bTo (dsq ds) a) (dPut7 7 (ds.getD a []))).1 = bTo (dsq ds) (a + 1) ∧ (sDo (bTo (dsq ds) a) (dPut7 7 (ds.getD a []))).2.1 = (a : Int) + 1 ∧ (sDo (bTo (dsq ds) a) (dPut7 7 (ds.getD a []))).2.2 = 0 := by
 obtain ⟨e1, e2⟩ := back_ok (dsq_le ds) h
 rw [dsq_at hb] at e1 e2
 exact ⟨by show _ = (sDo (bTo (dsq ds) a) (dPut7 7 ((dsq ds).getD a []))).1; rw [dsq_at hb], e2, e1⟩
theorem back_none {s : Sto} {ds : List (List UInt8)} (P : (sRecs s).Perm (mkR ds 0)) : sGet s 7 = ([], 6) ∧ s.index.length = 0 := by
 have h : sRecs s = [] := List.Perm.eq_nil P
 refine ⟨?_, by rw [← recs_len, h]; rfl⟩
 unfold sGet
 rw [h]
 exact NoKey.get (fun r hr => by cases hr)
open Go.Maps
def wMap (keys : List Int) : Nat → DataW Unit
 | 0 => .map []
 | i + 1 => (wMap keys i).put (.int .i64 (keys.getD i 0)) (.lit (.string [b8 i, b8 (keys.getD i 0)]))
theorem wMap_tidy (keys : List Int) : ∀ i, Tidy (wMap keys i)
 | 0 => ⟨[], rfl, List.Pairwise.nil⟩
 | i + 1 => (wMap_tidy keys i).put (k := .int .i64 (keys.getD i 0)) trivial _
theorem wMap_has (keys : List Int) (k : Int) : ∀ i, has (wMap keys i) (.int .i64 k) = (wTo keys i k).isSome
 | 0 => rfl
 | i + 1 => by
  have ih := wMap_has keys k i
  unfold wMap wTo
  by_cases e : k = keys.getD i 0
  ·rw [if_pos e, e, has_put_same (k := .int .i64 (keys.getD i 0)) (wMap_tidy keys i).isMap trivial]
   rfl
  ·rw [if_neg e, has_put_other (by simpa using e), ih]
theorem wMap_at (keys : List Int) (k : Int) (zd : DataW Unit) : ∀ i, (wMap keys i).atKey (.int .i64 k) zd = ((wTo keys i k).elim zd fun b => .lit (.string b))
 | 0 => rfl
 | i + 1 => by
  have ih := wMap_at keys k zd i
  unfold wMap wTo
  by_cases e : k = keys.getD i 0
  ·rw [if_pos e, e, atKey_put_same (k := .int .i64 (keys.getD i 0)) (wMap_tidy keys i).isMap trivial]
   rfl
  ·rw [if_neg e, atKey_put_other (by simpa using e), ih]
theorem wMap_size (keys : List Int) : ∀ i, size (wMap keys i) = (kdTo keys i).length
 | 0 => rfl
 | i + 1 => by
  have ih := wMap_size keys i
  unfold wMap kdTo
  rw [size_put (wMap_tidy keys i), wMap_has]
  by_cases h : keys.getD i 0 ∈ kdTo keys i
  ·rw [if_pos h, if_pos ((kd_mem keys _ i).1 h), ih]
  ·rw [if_neg h, if_neg (fun e => h ((kd_mem keys _ i).2 e)), ih]
   simp
end Go.Proofs.YtdmnmfnmaccmoaaGreatDoor
/- Walks of the top: a store behind deeds' texts; the closed fact. -/
namespace Go.Proofs.YtdmnmfnmaccmoaaGreatDoor
open Go Go.RowKit
theorem parse_of {d : Ded} (hd : mWrong d = 0) {w : World} (hV : VarT w) :
  Calls Tryz.prog 16 #[.string ⟨(tPrint d).toArray⟩] w fun e w' => ∃ v, e = .returned (.tuple #[v, .int .i64 0]) ∧ DedV w' w'.heap.size v d ∧ Ext w w' :=
 (parse_v (tPrint d) (print_le hd) hV).mono fun e w' ⟨v, q, he, hq, h, hE⟩ => by
  rw [parse_print hd] at hq h
  have := hq.out
  subst this
  exact ⟨v, he, h, hE⟩
theorem strs_cell (ds : List Ded) {a : Nat} (h : a < ds.length) : (strs (ds.map tPrint)).toArray[a]? = some (.string ⟨(tPrint (ds.getD a dZ)).toArray⟩) := by
 unfold strs
 rw [List.getElem?_toArray, List.getElem?_map, List.getElem?_map, List.getD_eq_getElem?_getD, List.getElem?_eq_getElem h]
 rfl
set_option maxRecDepth 100000 in
set_option maxHeartbeats 4000000 in
theorem done_v {w : World} (hV : VarT w) (ds : List Ded) (hr : Runs ds) (hlen : ds.length ≤ 9) {g : Nat} (bs : Box w g 9 (strs (ds.map tPrint)).toArray) :
  Calls Tryz.prog 8 #[.slice (some ⟨g, 0, none⟩) ds.length ds.length] w fun e w' => ∃ v', e = .returned (.tuple #[v', .bool true]) ∧ StoV tS w' 0 v' (dTo ds ds.length) ∧ Ext w w' := by
 have lg := bs.lt
 have HR := Lib.hid hr
 obtain ⟨n, hn⟩ : ∃ n, n = ds.length := ⟨_, rfl⟩
 have HN := Lib.hid hn
 have HC := Lib.hid (fun (a : Nat) (h : a < n) => strs_cell ds (a := a) (by rw [← hn]; exact h))
 rw [← hn] at hlen ⊢
 clear hr hn
 go_enter Tryz.func8, Tryz.ntmps8
 go_upto_region 1 with (fail)
 generalize hwn : World.alloc w _ = w1
 have hx : Ext w w1 := by rw [← hwn]; exact ext_alloc _ _
 have b2 : Box w1 w.heap.size 30 #[.slice none 0 0, .slice none 0 0, .slice none 0 0, .int .i64 0] := by rw [← hwn]; exact Box.new _ _ _ rfl
 clear hwn
 have bs := bs.ext hx
 have l2 : w.heap.size < w1.heap.size := b2.lt
 obtain ⟨g2, hg2⟩ : ∃ g, g = w.heap.size := ⟨_, rfl⟩
 rw [show Box w1 w.heap.size 30 #[.slice none 0 0, .slice none 0 0, .slice none 0 0, .int .i64 0] ↔ Box w1 g2 30 #[.slice none 0 0, .slice none 0 0, .slice none 0 0, .int .i64 0] by rw [hg2]] at b2
 rw [← hg2]
 have l2w : w.heap.size ≤ g2 := by omega
 clear hg2 l2
 go_wp2_with fail
 refine (stoNew_v _).mono ?_
 rintro e2 w2 ⟨v2, rfl, s2, he⟩
 have hx := ext_trans hx he
 have b2 := b2.ext he
 have bs := bs.ext he
 clear he
 obtain ⟨A2, n2, c2, E2, m2, e2, F2, k2, f2, rfl, _, _, _, _, _, _, _, _⟩ := s2.form
 have l4 := b2.lt
 go_upto_region 2 with (fail)
 generalize hwn : World.alloc w2 _ = w3
 have he : Ext w2 w3 := by rw [← hwn]; exact ext_alloc _ _
 have b4 : Box w3 w2.heap.size 30 #[.slice A2 n2 c2, .slice E2 m2 e2, .slice F2 k2 f2, .int .i64 sNew.next] := by rw [← hwn]; exact Box.new _ _ _ (by simp)
 clear hwn
 have hx := ext_trans hx he
 have b2 := b2.ext he
 have bs := bs.ext he
 have s2 := s2.ext he
 clear he
 obtain ⟨g4, hg4⟩ : ∃ g, g = w2.heap.size := ⟨_, rfl⟩
 rw [← hg4] at b4 l4 ⊢
 clear hg4
 have HV := Lib.hid (hV)
 clear hV
 have s4 := s2
 clear s2
 go_upto_region 3 with (fail)
 go_loopw [15] (fun i wr => ∃ a : Nat, a ≤ n ∧ i = .int .i64 a ∧ (∃ A n c E m e F k f, Box wr g4 30 #[.slice A n c, .slice E m e, .slice F k f, .int .i64 (dTo ds a).next] ∧ StoV tS wr 0 (.agg #[.slice A n c, .slice E m e, .slice F k f, .int .i64 (dTo ds a).next]) (dTo ds a)) ∧ Box wr g2 30 #[.slice none 0 0, .slice none 0 0, .slice none 0 0, .int .i64 0] ∧ Box wr g 9 (strs (ds.map tPrint)).toArray ∧ Ext w wr) (fun i _ => n - (intOf i).toNat)
 case atStart => exact ⟨0, by omega, rfl, ⟨_, _, _, _, _, _, _, _, _, b4, s4⟩, b2, bs, hx⟩
 case round =>
  clear hx b2 b4 s4 bs
  obtain ⟨a, ha, rfl, ⟨A3, n3, c3, E3, m3, e3, F3, k3, f3, b4, s4⟩, b2, bs, hx⟩ := hrel
  have hz := hx.size
  have l4z := b4.lt
  by_cases hlt : a < n
  ·have i0 : (0 : Int) ≤ (a : Int) := by omega
   have i1 : (a : Int) < (n : Int) := by omega
   have ha0 : a < ds.length := by rw [← HN.out]; exact hlt
   have HD := Lib.hid (HR.out.right a ha0)
   have HO := Lib.hid (HR.out.ok a ha0)
   have HG := Lib.hid (dTo_tight ds a)
   have HS := Lib.hid (show (sDo (dTo ds a) (ds.getD a dZ)).1 = dTo ds (a + 1) from rfl)
   have cs := bs.cell a (HC.out a hlt)
   generalize ds.getD a dZ = d at cs HD HO HS
   have hP := fun w hV => parse_of HD.out (w := w) hV
   obtain ⟨pb, hpb⟩ : ∃ b : ByteArray, b = ⟨(tPrint d).toArray⟩ := ⟨_, rfl⟩
   rw [← hpb] at cs hP
   clear hpb ha0
   generalize dTo ds a = y at b4 s4 HO HG HS
   go_upto_region 5 with (fail)
   clear cs
   go_wp2_with fail
   refine (hP _ (HV.out.ext hx)).mono ?_
   rintro e5 w5 ⟨v5, rfl, d5, he⟩
   have hx := ext_trans hx he
   have b2 := b2.ext he
   have b4 := b4.ext he
   have bs := bs.ext he
   have s4 := s4.ext he
   clear he
   clear hP
   obtain ⟨A5, n5, c5, rfl, _, hby⟩ := d5.at_
   go_upto_region 6 with (fail)
   generalize hwn : World.alloc w5 _ = w6
   have he : Ext w5 w6 := by rw [← hwn]; exact ext_alloc _ _
   have b7 : Box w6 w5.heap.size 34 #[.int .i64 d.kind, .int .i64 d.key, .int .i64 d.n, .slice A5 n5 c5] := by rw [← hwn]; exact Box.new _ _ _ rfl
   clear hwn
   have l7 := b4.lt
   have hx := ext_trans hx he
   have b2 := b2.ext he
   have b4 := b4.ext he
   have bs := bs.ext he
   have s4 := s4.ext he
   have hby := hby.ext he
   clear he d5
   obtain ⟨g7, hg7⟩ : ∃ g, g = w5.heap.size := ⟨_, rfl⟩
   rw [← hg7] at b7 l7
   rw [← hg7]
   have hby := hby.all
   clear hg7
   obtain ⟨b4_0, b4_1, b4_2, b4_3⟩ := b4.c4
   have b4_z := b4.free
   have b4_l := b4.lt
   obtain ⟨b7_0, b7_1, b7_2, b7_3⟩ := b7.c4
   have b7_z := b7.free
   have b7_l := b7.lt
   go_wp2_with fail
   refine (playDo_v (x := ⟨1, 0, 0, d⟩) (s := y) s4 HG.out.good ⟨_, rfl, hby⟩).mono ?_
   rintro e8 w8 ⟨v8, rfl, s8, he⟩
   try clear b4_0 b4_1 b4_2 b4_3 b4_z b4_l b7_0 b7_1 b7_2 b7_3 b7_z b7_l
   have hx := ext_trans hx he
   have b4 := b4.ext he
   have b7 := b7.ext he
   have b2 := b2.ext he
   have bs := bs.ext he
   clear he
   rw [do_is, HO.out]
   rw [do_is, HS.out] at s8
   generalize (sDo y d).2.1 = nn
   generalize hz1 : dTo ds (a + 1) = z at s8
   have HZ := Lib.hid hz1
   clear hz1
   clear s4 hby b7 HS HO HD
   obtain ⟨A8, n8, c8, E8, m8, e8, F8, k8, f8, rfl, _, _, _, _, _, _, _, _⟩ := s8.form
   go_upto_region 9 with (fail)
   generalize hwn : World.alloc w8 _ = w9
   have he : Ext w8 w9 := by rw [← hwn]; exact ext_alloc _ _
   have b9 : Box w9 w8.heap.size 30 #[.slice A8 n8 c8, .slice E8 m8 e8, .slice F8 k8 f8, .int .i64 z.next] := by rw [← hwn]; exact Box.new _ _ _ (by simp)
   clear hwn
   have l9 := b4.lt
   have hx := ext_trans hx he
   have b2 := b2.ext he
   have b4 := b4.ext he
   have bs := bs.ext he
   have s8 := s8.ext he
   clear he
   obtain ⟨g9, hg9⟩ : ∃ g, g = w8.heap.size := ⟨_, rfl⟩
   rw [← hg9] at b9 l9
   rw [← hg9]
   clear hg9
   have kb := b4.kd
   obtain ⟨b4_0, b4_1, b4_2, b4_3⟩ := b4.c4
   have b4_z := b4.free
   have b4_l := b4.lt
   obtain ⟨b9_0, b9_1, b9_2, b9_3⟩ := b9.c4
   have b9_z := b9.free
   have b9_l := b9.lt
   go_upto_region 12 with (fail)
   try clear b4_0 b4_1 b4_2 b4_3 b4_z b4_l b9_0 b9_1 b9_2 b9_3 b9_z b9_l
   generalize hwn : World.setCell (World.setCell (World.setCell (World.setCell w9 _ _) _ _) _ _) _ _ = w10
   have s8 := s8.kept (w' := w10) (by rw [← hwn]; (repeat (with_reducible (first | assumption | exact Kept.refl _ _ _ | (apply Kept.setK; rotate_left; (repeat (first | assumption | apply Kd.set | apply Kd.alloc | apply Kd.drew)); decide; omega) | refine Kept.allocK ?_ _ | refine Kept.drewK ?_))))
   have hx : Ext w w10 := by rw [← hwn]; (repeat (with_reducible (first | assumption | exact Below.refl _ _ | refine Below.setCell ?_ (by simp <;> omega) _ | refine Below.alloc ?_ (by simp <;> omega) _ | refine Below.drew ?_ | refine below_drewN ?_ _)))
   have b2 : Box w10 g2 30 #[.slice none 0 0, .slice none 0 0, .slice none 0 0, .int .i64 0] := by rw [← hwn]; (repeat (with_reducible (first | assumption | refine Box.alloc ?_ _ | refine Box.setOther ?_ (by simp <;> omega) _)))
   have bs : Box w10 g 9 (strs (ds.map tPrint)).toArray := by rw [← hwn]; (repeat (with_reducible (first | assumption | refine Box.alloc ?_ _ | refine Box.setOther ?_ (by simp <;> omega) _)))
   have b4 : Box w10 g4 30 #[.slice A8 n8 c8, .slice E8 m8 e8, .slice F8 k8 f8, .int .i64 z.next] := by rw [← hwn]; exact (((b4.set 0 _).set 1 _).set 2 _).set 3 _
   clear hwn kb b9
   go_wp2_with fail
   refine ⟨⟨a + 1, by omega, rfl, ⟨_, _, _, _, _, _, _, _, _, by rw [HZ.out]; exact b4, by rw [HZ.out]; exact s8⟩, b2, bs, hx⟩, ?_⟩
   simp only [intOf]
   omega
  ·obtain rfl : a = n := by omega
   have k2 := b2.kd
   obtain ⟨b4_0, b4_1, b4_2, b4_3⟩ := b4.c4
   have b4_z := b4.free
   have b4_l := b4.lt
   obtain ⟨b2_0, b2_1, b2_2, b2_3⟩ := b2.c4
   have b2_z := b2.free
   have b2_l := b2.lt
   go_wp2_with fail
   ((try simp only [Exit.inBlock, Exit.then]); refine bodyPost_ret (v := ?_) ?resultOf rfl ?_; case resultOf => (rw [results_cell_tmp rfl]; go_simp; rfl))
   try clear b4_0 b4_1 b4_2 b4_3 b4_z b4_l b2_0 b2_1 b2_2 b2_3 b2_z b2_l
   exact ⟨_, rfl, s4.kept (by (repeat (with_reducible (first | assumption | exact Kept.refl _ _ _ | (apply Kept.setK; rotate_left; (repeat (first | assumption | apply Kd.set | apply Kd.alloc | apply Kd.drew)); decide; omega) | refine Kept.allocK ?_ _ | refine Kept.drewK ?_)))), by (repeat (with_reducible (first | assumption | exact Below.refl _ _ | refine Below.setCell ?_ (by simp <;> omega) _ | refine Below.alloc ?_ (by simp <;> omega) _ | refine Below.drew ?_ | refine below_drewN ?_ _)))⟩
set_option maxRecDepth 100000 in
set_option maxHeartbeats 4000000 in
theorem aliveT_w {w : World} (hV : VarT w) : Calls Tryz.prog 7 #[] w fun e w' => e = .returned (.bool true) ∧ Ext w w' := by
 go_enter Tryz.func7, Tryz.ntmps7
 go_wp2_with fail
 generalize hwn : World.alloc w _ = w1
 have hx : Ext w w1 := by rw [← hwn]; exact ext_alloc _ _
 have bs : Box w1 w.heap.size 9 (strs (wA.map tPrint)).toArray := by rw [← hwn, wA_is]; exact Box.new _ _ _ rfl
 clear hwn
 refine (done_v (hV.ext hx) wA wA_runs (by decide) bs).mono ?_
 rintro e2 w2 ⟨v2, rfl, s2, he⟩
 have hx := ext_trans hx he
 clear he bs
 rw [show wA.length = 2 from rfl] at s2
 have HG := Lib.hid (dTo_tight wA 2).good
 have HGET := Lib.hid wA_get
 have HLS := Lib.hid wA_list
 generalize dTo wA 2 = y at s2 HG HGET HLS
 obtain ⟨A2, n2, c2, E2, m2, e2, F2, k2, f2, rfl, _, _, _, _, _, _, _, _⟩ := s2.form
 go_upto_region 2 with (fail)
 generalize hwn : World.alloc w2 _ = w3
 have he : Ext w2 w3 := by rw [← hwn]; exact ext_alloc _ _
 have b1 : Box w3 w2.heap.size 30 #[.slice A2 n2 c2, .slice E2 m2 e2, .slice F2 k2 f2, .int .i64 y.next] := by rw [← hwn]; exact Box.new _ _ _ (by simp)
 clear hwn
 have hx := ext_trans hx he
 have s2 := s2.ext he
 clear he
 obtain ⟨g1, hg1⟩ : ∃ g, g = w2.heap.size := ⟨_, rfl⟩
 rw [← hg1] at b1
 rw [← hg1]
 clear hg1
 obtain ⟨b1_0, b1_1, b1_2, b1_3⟩ := b1.c4
 have b1_z := b1.free
 have b1_l := b1.lt
 go_wp2_with fail
 refine (stoGet_v (key := 7) s2 HG.out.fine HG.out.right).mono ?_
 rintro e4 w4 ⟨v4, q4, rfl, HQ, hy, he⟩
 try clear b1_0 b1_1 b1_2 b1_3 b1_z b1_l
 have hx := ext_trans hx he
 have s2 := s2.ext he
 have b1 := b1.ext he
 clear he
 rw [HGET.out] at HQ hy
 obtain rfl : q4 = 0 := HQ.out
 obtain ⟨A4, n4, c4, rfl, hy, HN4⟩ := hy.form
 have hs := run_str hy
 clear HQ HN4
 obtain ⟨ab, hab⟩ : ∃ b : ByteArray, b = ⟨[97, 98].toArray⟩ := ⟨_, rfl⟩
 have hq2 : (ab.toList == [97, 98]) = true := by rw [hab, listOf]; rfl
 rw [← hab] at hs
 clear hab
 obtain ⟨b1_0, b1_1, b1_2, b1_3⟩ := b1.c4
 have b1_z := b1.free
 have b1_l := b1.lt
 go_wp2_with fail
 refine (stoList_v (st := 1) (mo := 9) s2 HG.out.fine HG.out.right).mono ?_
 rintro e6 w6 ⟨v6, rfl, o6, he⟩
 try clear b1_0 b1_1 b1_2 b1_3 b1_z b1_l
 have hx := ext_trans hx he
 have b1 := b1.ext he
 clear he
 obtain ⟨A6, n6, c6, rfl, _, _, HN⟩ := o6.form
 obtain rfl : n6 = 2 := HN.out.trans HLS.out
 clear HN
 go_wp2_with fail
 go_ret
 exact ⟨rfl, hx⟩
end Go.Proofs.YtdmnmfnmaccmoaaGreatDoor
