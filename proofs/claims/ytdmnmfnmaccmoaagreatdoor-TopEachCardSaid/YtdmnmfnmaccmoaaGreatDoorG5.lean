/- Texts laid together: words, plain laws and walks of the program's functions (G5). -/
import Derived.Test.YtdmnmfnmaccmoaaGreatDoorG3
/- Plain: gentle steps (chapters 8, 11 and 12). -/
namespace Go.Proofs.YtdmnmfnmaccmoaaGreatDoor
def tl (d : Dsk) (p : Nat) : Rec := (pLook d p).2
structure dTight (d : Dsk) : Prop where
 good : dGood d
 vers : ∀ p q : Nat, p < 6 → q < 6 → p ≠ q → (tl d p).kind ≠ 1 → (tl d q).kind ≠ 1 → (tl d p).ver ≠ (tl d q).ver
 clash : ∀ p : Nat, p < 6 → (pLook d p).1 ≠ 5
structure tGood (s : Sto) : Prop where
 good : sGood s
 index : s.index = iScan s.disk
 tight : dTight s.disk
theorem sorted_ext : ∀ {l m : List Ent}, l.Pairwise eLt → m.Pairwise eLt → (∀ x, x ∈ l ↔ x ∈ m) → l = m
 | [], [], _, _, _ => rfl
 | [], y :: m, _, _, h => absurd ((h y).2 (by simp)) (by simp)
 | x :: l, [], _, _, h => absurd ((h x).1 (by simp)) (by simp)
 | x :: l, y :: m, hl, hm, h => by
  obtain ⟨l1, l2⟩ := List.pairwise_cons.1 hl
  obtain ⟨m1, m2⟩ := List.pairwise_cons.1 hm
  have e : x = y := by
   rcases List.mem_cons.1 ((h x).1 (by simp)) with e | hx
   ·exact e
   ·rcases List.mem_cons.1 ((h y).2 (by simp)) with e | hy
    ·exact e.symm
    ·exact absurd (l1 y hy) (eLt_asymm (m1 x hx))
  subst e
  congr 1
  refine sorted_ext l2 m2 fun z => ?_
  constructor
  ·intro hz
   rcases List.mem_cons.1 ((h z).1 (by simp [hz])) with e | hz'
   ·subst e; exact absurd (l1 z hz) (eLt_irrefl z)
   ·exact hz'
  ·intro hz
   rcases List.mem_cons.1 ((h z).2 (by simp [hz])) with e | hz'
   ·subst e; exact absurd (m1 z hz) (eLt_irrefl z)
   ·exact hz'
theorem scan_mem {d : Dsk} (h : dGood d) (e : Ent) : e ∈ iScan d ↔ ∃ i : Nat, i < 6 ∧ (tl d i).kind ≠ 1 ∧ e = ⟨tl d i, i⟩ := by
 unfold iScan
 rw [h.len]
 exact iTo_mem d 6 e
theorem scan_free {d : Dsk} (h : dGood d) {p : Nat} (hp : p < 6) (hno : ∀ e ∈ iScan d, e.pair ≠ p) : (tl d p).kind = 1 := by
 by_cases hk : (tl d p).kind = 1
 ·exact hk
 ·exact absurd rfl (hno ⟨tl d p, p⟩ ((scan_mem h _).2 ⟨p, hp, hk, rfl⟩))
theorem scan_ins {d e : Dsk} (hd : dGood d) (he : dGood e) {p : Nat} (hp : p < 6) {r : Rec} (hk : r.kind ≠ 1) (hf : (tl d p).kind = 1) (h1 : tl e p = r) (h2 : ∀ q : Nat, q < 6 → q ≠ p → tl e q = tl d q) : iScan e = iIns (iScan d) ⟨r, p⟩ := by
 have hno : ∀ x ∈ iScan d, x.pair ≠ (p : Int) := by
  intro x hx
  obtain ⟨i, hi, hik, rfl⟩ := (scan_mem hd x).1 hx
  intro e'
  have : i = p := by have e2 : (i : Int) = p := e'; omega
  subst this
  exact hik hf
 refine sorted_ext (iScan_good he).1.2.1 (iIns_sorted (iScan_good hd).1.2.1 hno) fun x => ?_
 rw [iIns_mem, scan_mem he, scan_mem hd]
 constructor
 ·rintro ⟨i, hi, hik, rfl⟩
  by_cases hip : i = p
  ·subst hip; exact .inl (by rw [h1])
  ·rw [h2 i hi hip] at hik ⊢
   exact .inr ⟨i, hi, hik, rfl⟩
 ·rintro (rfl | ⟨i, hi, hik, rfl⟩)
  ·exact ⟨p, hp, by rw [h1]; exact hk, by rw [h1]⟩
  ·have hip : i ≠ p := by rintro rfl; exact hik hf
   exact ⟨i, hi, by rw [h2 i hi hip]; exact hik, by rw [h2 i hi hip]⟩
theorem scan_drop {d e : Dsk} (hd : dGood d) (he : dGood e) {p : Nat} (h1 : (tl e p).kind = 1) (h2 : ∀ q : Nat, q < 6 → q ≠ p → tl e q = tl d q) : iScan e = iDrop (iScan d) p := by
 refine sorted_ext (iScan_good he).1.2.1 ((iScan_good hd).1.2.1.sublist (iDrop_sub _ _)) fun x => ?_
 unfold iDrop
 rw [List.mem_filter, scan_mem he, scan_mem hd]
 constructor
 ·rintro ⟨i, hi, hik, rfl⟩
  have hip : i ≠ p := by rintro rfl; exact hik h1
  rw [h2 i hi hip] at hik ⊢
  exact ⟨⟨i, hi, hik, rfl⟩, by simp only [Bool.not_eq_true', decide_eq_false_iff_not]; omega⟩
 ·rintro ⟨⟨i, hi, hik, rfl⟩, hne⟩
  have hip : i ≠ p := by simp only [Bool.not_eq_true', decide_eq_false_iff_not] at hne; omega
  exact ⟨i, hi, by rw [h2 i hi hip]; exact hik, by rw [h2 i hi hip]⟩
theorem scan_same {d e : Dsk} (hd : dGood d) (he : dGood e) (h : ∀ q : Nat, q < 6 → tl e q = tl d q) : iScan e = iScan d := iScan_congr he hd h
theorem pTells_free : pTells (rFree, true) = false := by decide
theorem how_none {a b : Rec × Bool} (h : (pHow a b).2.kind = 1) : pTells a = false ∧ pTells b = false := by
 have k : ∀ x : Rec × Bool, pTells x = true → x.2 = true ∧ x.1.kind ≠ 1 := fun x hx => (pTells_iff x).1 hx
 unfold pHow at h
 cases ta : pTells a <;> cases tb : pTells b
 ·exact ⟨rfl, rfl⟩
 ·exfalso
  obtain ⟨k1, k2⟩ := k b tb
  rw [ta, tb, k1] at h
  simp at h
  exact k2 h
 ·exfalso
  obtain ⟨k1, k2⟩ := k a ta
  rw [ta, tb, k1] at h
  simp at h
  exact k2 h
 ·exfalso
  obtain ⟨k1, k2⟩ := k a ta
  rw [ta, tb, k1] at h
  simp at h
  split at h
  ·exact k2 h
  ·exact k2 h
theorem how_told (a b : Rec × Bool) (hno : pTells a = true → pTells b = true → a.1 = b.1) :
  (pHow a b).1 ≠ 5 ∧ (pHow a b).2 = if pTells a = true then a.1 else if pTells b = true then b.1 else rFree := by
 have h0 : pTells a = true → a.2 = true := fun hx => ((pTells_iff a).1 hx).1
 have h1 : pTells b = true → b.2 = true := fun hx => ((pTells_iff b).1 hx).1
 unfold pHow
 cases ta : pTells a <;> cases tb : pTells b
 ·simp only [Bool.false_eq_true, false_and, if_false]
  split
  ·simp
  ·split <;> simp
 ·have := h1 tb
  simp [this]
 ·have := h0 ta
  simp [this]
 ·have := h0 ta
  have e := hno ta tb
  simp [this, (rSame_iff a.1 b.1).2 e]
theorem how_clash {a b : Rec × Bool} (h : (pHow a b).1 ≠ 5) (ta : pTells a = true) (tb : pTells b = true) : a.1 = b.1 := by
 have h0 : a.2 = true := ((pTells_iff a).1 ta).1
 unfold pHow at h
 rw [ta, tb, h0] at h
 simp only [Bool.true_eq_false, false_and, if_false, and_self, if_true] at h
 split at h
 ·rename_i hs; exact (rSame_iff _ _).1 hs
 ·exact absurd rfl h
theorem pTells_one {r : Rec} (hk : r.kind ≠ 1) : pTells (r, true) = true := by simp [pTells, hk]
theorem how_mix {a b a' b' : Rec × Bool} {r : Rec} (hc : (pHow a b).1 ≠ 5) (hn : r = rFree ∨ (r.kind ≠ 1 ∧ pTells a = false ∧ pTells b = false)) (ha : a' = a ∨ a' = (r, true)) (hb : b' = b ∨ b' = (r, true)) :
  (pHow a' b').1 ≠ 5 ∧ ((pHow a' b').2 = (pHow a b).2 ∨ (pHow a' b').2 = r) := by
 have e := how_told a b (how_clash hc)
 rcases hn with rfl | ⟨hk, na, nb⟩
 ·have hno : pTells a' = true → pTells b' = true → a'.1 = b'.1 := by
   rcases ha with rfl | rfl <;> rcases hb with rfl | rfl
   ·exact how_clash hc
   ·intro _ h; rw [pTells_free] at h; cases h
   ·intro h; rw [pTells_free] at h; cases h
   ·intro h; rw [pTells_free] at h; cases h
  have e' := how_told a' b' hno
  refine ⟨e'.1, ?_⟩
  rw [e'.2, e.2]
  rcases ha with rfl | rfl <;> rcases hb with rfl | rfl
  ·exact .inl rfl
  ·rw [pTells_free]
   cases ta : pTells a'
   ·exact .inr rfl
   ·exact .inl rfl
  ·rw [pTells_free]
   cases ta : pTells a
   ·exact .inl rfl
   ·cases tb : pTells b'
    ·exact .inr rfl
    ·exact .inl (how_clash hc ta tb).symm
  ·rw [pTells_free]
   exact .inr rfl
 ·have tr := pTells_one hk
  have hno : pTells a' = true → pTells b' = true → a'.1 = b'.1 := by
   rcases ha with rfl | rfl <;> rcases hb with rfl | rfl
   ·exact how_clash hc
   ·intro h; rw [na] at h; cases h
   ·intro _ h; rw [nb] at h; cases h
   ·intro _ _; rfl
  have e' := how_told a' b' hno
  refine ⟨e'.1, ?_⟩
  rw [e'.2, e.2]
  rcases ha with rfl | rfl <;> rcases hb with rfl | rfl
  ·exact .inl rfl
  ·rw [na, nb, tr]
   exact .inr rfl
  ·rw [tr]; exact .inr rfl
  ·rw [tr]; exact .inr rfl
theorem kTo_pair (bs : List (List UInt8)) (u v : Int × List UInt8) (bits : Int) :
  kTo [u, v] bits bs 2 = (let c := if dBit bits 0 = true then bs.set u.1.toNat u.2 else bs; if dBit bits 1 = true then c.set v.1.toNat v.2 else c) := by
 simp [kTo]
theorem keep_pair {d : Dsk} (h : dGood d) {p : Nat} (hp : p < 6) {r : Rec} (hr : rWrong r = 0) (bits : Int) :
  dGood (dKeep (pPut d p r).1 bits) ∧ (∀ j : Nat, j < 12 → j / 2 ≠ p → dGet (dKeep (pPut d p r).1 bits) j = dGet d j) ∧
   ∀ j : Nat, j < 12 → j / 2 = p → dGet (dKeep (pPut d p r).1 bits) j = dGet d j ∨ dGet (dKeep (pPut d p r).1 bits) j = (rBytes r (j : Int), 0) := by
 obtain ⟨a, b, c, _⟩ := put_even h hp hr
 have hE := keep_even a b c bits
 have hG : dGood (dKeep (pPut d p r).1 bits) := ⟨hE.len, hE.blk, rfl⟩
 have hb : (dKeep (pPut d p r).1 bits).blocks = (let c := if dBit bits 0 = true then d.blocks.set (2 * p) (rBytes r (2 * (p : Int))) else d.blocks; if dBit bits 1 = true then c.set (2 * p + 1) (rBytes r (2 * (p : Int) + 1)) else c) := by
  rw [pPut_in (h.in_ hp) hr, h.late]
  unfold dKeep
  simp only [List.nil_append, List.length_cons, List.length_nil]
  rw [kTo_pair]
  simp only
  rw [show (2 * (p : Int)).toNat = 2 * p by omega, show (2 * (p : Int) + 1).toNat = 2 * p + 1 by omega]
 have hlen := h.len
 have hk : ∀ j : Nat, (dKeep (pPut d p r).1 bits).blocks.getD j [] = if dBit bits 1 = true ∧ j = 2 * p + 1 then rBytes r (2 * (p : Int) + 1) else if dBit bits 0 = true ∧ j = 2 * p then rBytes r (2 * (p : Int)) else d.blocks.getD j [] := by
  intro j
  have L : ∀ (l : List (List UInt8)) (i : Nat) (x : List UInt8), i < l.length → (l.set i x).getD j [] = if j = i then x else l.getD j [] := by
   intro l i x hi
   rw [getD_set]
   by_cases e : j = i
   ·rw [if_pos e, if_pos ⟨e.symm, hi⟩]
   ·rw [if_neg e, if_neg (fun h => e h.1.symm)]
  rw [hb]
  by_cases c1 : dBit bits 1 = true <;> by_cases c0 : dBit bits 0 = true
  ·simp only [c0, c1, if_true, true_and]
   rw [L _ _ _ (by rw [List.length_set]; omega), L _ _ _ (by omega)]
  ·simp only [c0, c1, if_true, true_and, Bool.false_eq_true, if_false, false_and]
   rw [L _ _ _ (by omega)]
  ·simp only [c0, c1, if_true, true_and, Bool.false_eq_true, if_false, false_and]
   rw [L _ _ _ (by omega)]
  ·simp only [c0, c1, Bool.false_eq_true, if_false, false_and]
 refine ⟨hG, fun j hj hjp => ?_, fun j hj hjp => ?_⟩
 ·rw [hG.get hj, h.get hj, hk, if_neg (by omega), if_neg (by omega)]
 ·rw [hG.get hj, h.get hj, hk]
  split
  ·rename_i e
   exact .inr (by rw [show 2 * (p : Int) + 1 = (j : Int) by omega])
  ·split
   ·rename_i e
    exact .inr (by rw [show 2 * (p : Int) = (j : Int) by omega])
   ·exact .inl rfl
theorem side_of {d : Dsk} {k : Int} {r : Rec} (hr : rWrong r = 0) (h0 : 0 ≤ k) (h1 : k ≤ 255) (h : dGet d k = (rBytes r k, 0)) : pSide d k = (r, true) := by
 unfold pSide
 rw [h, turn1 hr h0 h1]
 rfl
theorem keep_look {d : Dsk} (h : dGood d) {p : Nat} (hp : p < 6) {r : Rec} (hr : rWrong r = 0) (hc : (pLook d p).1 ≠ 5) (hn : r = rFree ∨ (r.kind ≠ 1 ∧ (tl d p).kind = 1)) (bits : Int) :
  dGood (dKeep (pPut d p r).1 bits) ∧ (∀ q : Nat, q < 6 → q ≠ p → pLook (dKeep (pPut d p r).1 bits) q = pLook d q) ∧ (pLook (dKeep (pPut d p r).1 bits) p).1 ≠ 5 ∧ (tl (dKeep (pPut d p r).1 bits) p = tl d p ∨ tl (dKeep (pPut d p r).1 bits) p = r) := by
 obtain ⟨g, ho, hs⟩ := keep_pair h hp hr bits
 generalize dKeep (pPut d p r).1 bits = D at g ho hs ⊢
 refine ⟨g, fun q hq hqp => ?_, ?_⟩
 ·refine pLook_congr (g.in_ hq) (h.in_ hq) ?_ ?_
  ·have := ho (2 * q) (by omega) (by omega)
   rwa [show ((2 * q : Nat) : Int) = 2 * (q : Int) by omega] at this
  ·have := ho (2 * q + 1) (by omega) (by omega)
   rwa [show ((2 * q + 1 : Nat) : Int) = 2 * (q : Int) + 1 by omega] at this
 ·have s0 := hs (2 * p) (by omega) (by omega)
  have s1 := hs (2 * p + 1) (by omega) (by omega)
  rw [show ((2 * p : Nat) : Int) = 2 * (p : Int) by omega] at s0
  rw [show ((2 * p + 1 : Nat) : Int) = 2 * (p : Int) + 1 by omega] at s1
  have a0 : pSide D (2 * (p : Int)) = pSide d (2 * (p : Int)) ∨ pSide D (2 * (p : Int)) = (r, true) := by
   rcases s0 with e | e
   ·exact .inl (by unfold pSide; rw [e])
   ·exact .inr (side_of hr (by omega) (by omega) e)
  have a1 : pSide D (2 * (p : Int) + 1) = pSide d (2 * (p : Int) + 1) ∨ pSide D (2 * (p : Int) + 1) = (r, true) := by
   rcases s1 with e | e
   ·exact .inl (by unfold pSide; rw [e])
   ·exact .inr (side_of hr (by omega) (by omega) e)
  unfold tl pLook at hn ⊢
  unfold pLook at hc
  rw [if_pos (h.in_ hp)] at hc hn
  rw [if_pos (g.in_ hp), if_pos (h.in_ hp)]
  have hn' : r = rFree ∨ (r.kind ≠ 1 ∧ pTells (pSide d (2 * (p : Int))) = false ∧ pTells (pSide d (2 * (p : Int) + 1)) = false) := by
   rcases hn with e | ⟨e1, e2⟩
   ·exact .inl e
   ·exact .inr ⟨e1, how_none e2⟩
  exact how_mix hc hn' a0 a1
def gentle (s : Sto) (x : Stp) : Bool :=
 if x.kind ≠ 3 ∨ x.n < 0 ∨ 16 * (s.disk.blocks.length : Int) ≤ x.n then true else decide ((pLook s.disk (x.n / 32)).1 < 2)
theorem set_getD_self {α : Type} (d : α) (l : List α) (i : Nat) : l.set i (l.getD i d) = l := by
 refine list_ext_getD d (by simp) fun j hj => ?_
 rw [getD_set]
 split
 ·rename_i e; rw [e.1]
 ·rfl
theorem spoil_look {d : Dsk} (h : dGood d) {n y : Int} (h0 : 0 ≤ n) (h1 : n < 192) (hg : (pLook d (n / 32)).1 < 2) :
  (∀ q : Nat, q < 6 → tl (dSpoil d (n / 16) (n % 16) y) q = tl d q) ∧ ∀ q : Nat, q < 6 → (pLook d q).1 ≠ 5 → (pLook (dSpoil d (n / 16) (n % 16) y) q).1 ≠ 5 := by
 have hlen := h.len
 have hblk := h.blk (n / 16).toNat (by omega)
 have hG := spoil_good h (n / 16) (n % 16) y
 by_cases hy : y % 256 = 0
 ·have e : dSpoil d (n / 16) (n % 16) y = d := by
   unfold dSpoil
   split
   ·have hb : b8 y = 0 := by
     apply UInt8.toNat_inj.1
     rw [b8_toNat, hy]
     rfl
    rw [hb, UInt8.xor_zero, set_getD_self, set_getD_self]
   ·rfl
  rw [e]
  exact ⟨fun _ _ => rfl, fun _ _ h => h⟩
 ·have hnn := (pLook_kind d (n / 32)).2.2.1
  obtain ⟨q, hq⟩ : ∃ q : Nat, (q : Int) = n / 32 := ⟨(n / 32).toNat, by omega⟩
  obtain ⟨k, hk⟩ : ∃ k : Nat, (k : Int) = n / 16 := ⟨(n / 16).toNat, by omega⟩
  obtain ⟨i, hi⟩ : ∃ i : Nat, (i : Int) = n % 16 := ⟨(n % 16).toNat, by omega⟩
  rw [← hq] at hg hnn
  rw [← hk, ← hi] at hG ⊢
  have hkq : k / 2 = q := by omega
  have hk12 : k < 12 := by omega
  have hi16 : i < 16 := by omega
  have hkk : ((k : Int)).toNat = k := by omega
  have hii : ((i : Int)).toNat = i := by omega
  rw [show (n / 16).toNat = k by omega] at hblk
  have hb := pLook_bytes (h.in_ (p := q) (by omega)) (by omega)
  have hkb : d.blocks.getD k [] = rBytes (tl d q) (k : Int) := by
   have hg2 := h.get hk12
   rcases Nat.mod_two_eq_zero_or_one k with e | e
   ·have e3 : 2 * (q : Int) = (k : Int) := by omega
    rw [e3, hg2] at hb
    exact hb.1
   ·have e3 : 2 * (q : Int) + 1 = (k : Int) := by omega
    rw [e3, hg2] at hb
    exact hb.2
  have hd : dSpoil d k i y = ⟨d.blocks.set k ((d.blocks.getD k []).set i ((d.blocks.getD k []).getD i 0 ^^^ b8 y)), d.late⟩ := by
   unfold dSpoil
   rw [hkk, hii, if_pos ⟨by omega, by omega, by omega, by omega⟩]
  rw [hd] at hG ⊢
  have hget : ∀ j : Nat, j < 12 → j ≠ k → dGet ⟨d.blocks.set k ((d.blocks.getD k []).set i ((d.blocks.getD k []).getD i 0 ^^^ b8 y)), d.late⟩ j = dGet d j := by
   intro j hj hjk
   rw [hG.get hj, h.get hj]
   show ((d.blocks.set k _).getD j [], (0 : Int)) = _
   rw [getD_set, if_neg (by omega)]
  have hbad : dGet ⟨d.blocks.set k ((d.blocks.getD k []).set i ((d.blocks.getD k []).getD i 0 ^^^ b8 y)), d.late⟩ k = ((rBytes (tl d q) (k : Int)).set i ((rBytes (tl d q) (k : Int)).getD i 0 ^^^ b8 y), 0) := by
   rw [hG.get hk12]
   show ((d.blocks.set k _).getD k [], (0 : Int)) = _
   rw [getD_set, if_pos ⟨rfl, by omega⟩, hkb]
  generalize (⟨d.blocks.set k ((d.blocks.getD k []).set i ((d.blocks.getD k []).getD i 0 ^^^ b8 y)), d.late⟩ : Dsk) = D at hG hget hbad ⊢
  have hr : rWrong (tl d q) = 0 := pLook_right d q
  have hside : pSide D (k : Int) = (rZero, false) := by
   unfold pSide
   rw [hbad]
   have hf := rByte_found (k := (k : Int)) (m := (k : Int)) hr i _ hi16 (fun e => b8_ne hy ((rBytes (tl d q) (k : Int)).getD i 0) e.symm)
   simp only [hf]
   rfl
  have hother : ∀ j : Nat, j < 12 → j / 2 = q → j ≠ k → pSide D (j : Int) = (tl d q, true) := by
   intro j hj hjq hjk
   refine side_of hr (by omega) (by omega) ?_
   rw [hget j hj hjk, h.get hj]
   congr 1
   have hg2 := h.get hj
   rcases Nat.mod_two_eq_zero_or_one j with e | e
   ·have e3 : 2 * (q : Int) = (j : Int) := by omega
    rw [e3, hg2] at hb
    exact hb.1
   ·have e3 : 2 * (q : Int) + 1 = (j : Int) := by omega
    rw [e3, hg2] at hb
    exact hb.2
  have hq6 : q < 6 := by omega
  have hlook : ∀ p : Nat, p < 6 → p ≠ q → pLook D p = pLook d p := by
   intro p hp hpq
   refine pLook_congr (hG.in_ hp) (h.in_ hp) ?_ ?_
   ·have := hget (2 * p) (by omega) (by omega)
    rwa [show ((2 * p : Nat) : Int) = 2 * (p : Int) by omega] at this
   ·have := hget (2 * p + 1) (by omega) (by omega)
    rwa [show ((2 * p + 1 : Nat) : Int) = 2 * (p : Int) + 1 by omega] at this
  have tz : pTells (rZero, false) = false := rfl
  have hself : (pLook D q).1 ≠ 5 ∧ tl D q = tl d q := by
   unfold tl
   have hrr := hr
   have heq : ∀ x : Rec, rWrong x = 0 → (if pTells (x, true) = true then x else rFree) = x := by
    intro x hx
    by_cases hk1 : x.kind = 1
    ·rw [if_neg (by simp [pTells, hk1])]; exact (rFree_of hx hk1).symm
    ·rw [if_pos (pTells_one hk1)]
   rcases Nat.mod_two_eq_zero_or_one k with e | e
   ·have e3 : 2 * (q : Int) = (k : Int) := by omega
    have e4 : 2 * (q : Int) + 1 = ((k + 1 : Nat) : Int) := by omega
    have ho := hother (k + 1) (by omega) (by omega) (by omega)
    have hw := how_told (rZero, false) (tl d q, true) (fun h => by rw [tz] at h; cases h)
    have hl : pLook D q = pHow (rZero, false) (tl d q, true) := by
     unfold pLook
     rw [if_pos (hG.in_ hq6), e3, hside, show (k : Int) + 1 = ((k + 1 : Nat) : Int) by omega, ho]
    rw [hl]
    refine ⟨hw.1, hw.2.trans ?_⟩
    rw [tz]
    exact heq _ hr
   ·have e3 : 2 * (q : Int) + 1 = (k : Int) := by omega
    have e4 : 2 * (q : Int) = ((k - 1 : Nat) : Int) := by omega
    have ho := hother (k - 1) (by omega) (by omega) (by omega)
    have hw := how_told (tl d q, true) (rZero, false) (fun _ h => by rw [tz] at h; cases h)
    have hl : pLook D q = pHow (tl d q, true) (rZero, false) := by
     unfold pLook
     rw [if_pos (hG.in_ hq6), e3, hside, e4, ho]
    rw [hl]
    refine ⟨hw.1, hw.2.trans ?_⟩
    rw [tz]
    exact heq _ hr
  refine ⟨fun p hp => ?_, fun p hp hc => ?_⟩
  ·by_cases hpq : p = q
   ·subst hpq; exact hself.2
   ·unfold tl; rw [hlook p hp hpq]
  ·by_cases hpq : p = q
   ·subst hpq; exact hself.1
   ·rw [hlook p hp hpq]; exact hc
end Go.Proofs.YtdmnmfnmaccmoaaGreatDoor
/- Plain: what is there behind gentle steps (chapters 8, 11 and 12). -/
namespace Go.Proofs.YtdmnmfnmaccmoaaGreatDoor
theorem tight_tl {d e : Dsk} (h : dTight d) (g : dGood e) (ht : ∀ q : Nat, q < 6 → tl e q = tl d q) (hc : ∀ q : Nat, q < 6 → (pLook e q).1 ≠ 5) : dTight e :=
 ⟨g, fun p q hp hq hne h1 h2 => by rw [ht p hp, ht q hq] at *; exact h.vers p q hp hq hne h1 h2, hc⟩
theorem tight_one {d e : Dsk} (h : dTight d) (g : dGood e) {p : Nat} (ht : ∀ q : Nat, q < 6 → q ≠ p → tl e q = tl d q) (hc : ∀ q : Nat, q < 6 → (pLook e q).1 ≠ 5)
  (hp : (tl e p).kind = 1 ∨ ∀ q : Nat, q < 6 → q ≠ p → (tl d q).kind ≠ 1 → (tl d q).ver ≠ (tl e p).ver) : dTight e := by
 refine ⟨g, fun a b ha hb hne h1 h2 => ?_, hc⟩
 by_cases ea : a = p
 ·subst ea
  rcases hp with hp | hp
  ·exact absurd hp h1
  ·rw [ht b hb (Ne.symm hne)] at h2 ⊢
   exact (hp b hb (Ne.symm hne) h2).symm
 ·rw [ht a ha ea] at h1 ⊢
  by_cases eb : b = p
  ·subst eb
   rcases hp with hp | hp
   ·exact absurd hp h2
   ·exact hp a ha ea h1
  ·rw [ht b hb eb] at h2 ⊢
   exact h.vers a b ha hb hne h1 h2
theorem setPair_tl {d : Dsk} (h : dGood d) {p : Nat} (hp : p < 6) {r : Rec} (hr : rWrong r = 0) {q : Nat} (hq : q < 6) : tl ⟨setPair d.blocks p r, []⟩ q = if q = p then r else tl d q := by
 unfold tl
 rw [setPair_look h hp hr hq]
 split <;> rfl
theorem setPair_clash {d : Dsk} (h : dGood d) (hc : ∀ q : Nat, q < 6 → (pLook d q).1 ≠ 5) {p : Nat} (hp : p < 6) {r : Rec} (hr : rWrong r = 0) {q : Nat} (hq : q < 6) : (pLook ⟨setPair d.blocks p r, []⟩ q).1 ≠ 5 := by
 rw [setPair_look h hp hr hq]
 split
 ·simp only; split <;> omega
 ·exact hc q hq
structure Meant (s : Sto) (d : Ded) (p : Nat) (r : Rec) (l : List Ent) : Prop where
 p6 : p < 6
 right : rWrong r = 0
 how : r = rFree ∨ (r.kind ≠ 1 ∧ (tl s.disk p).kind = 1)
 new : r.kind = 1 ∨ ∀ q : Nat, q < 6 → q ≠ p → (tl s.disk q).kind ≠ 1 → (tl s.disk q).ver ≠ r.ver
 scan : ∀ e : Dsk, dGood e → tl e p = r → (∀ q : Nat, q < 6 → q ≠ p → tl e q = tl s.disk q) → iScan e = l
theorem meant {s : Sto} (g : tGood s) {d : Ded} (h : (sBegin s d).2.2 = 0) : ∃ (p : Nat) (r : Rec), Meant s d p r (sBegin s d).1.index ∧ (sBegin s d).1.disk = (pPut s.disk p r).1 ∧ (sBegin s d).1.next = s.next := by
 obtain ⟨_, _, p, r, hp, hr, e1, e2, _, hc⟩ := begin_ok g.good h
 refine ⟨p, r, ?_, e1, e2⟩
 rcases hc with ⟨_, rfl, _, e3⟩ | ⟨_, er, h1, h2, _, e3⟩
 ·refine ⟨hp, hr, .inl rfl, .inl rfl, fun e he ht ho => ?_⟩
  rw [e3, g.index]
  exact scan_drop g.tight.good he (by rw [ht]; rfl) ho
 ·have hk : r.kind ≠ 1 := by
   have := rOne_spec h1
   omega
  have hf : (tl s.disk p).kind = 1 := scan_free g.tight.good hp (by rw [← g.index]; exact h2)
  refine ⟨hp, hr, .inr ⟨hk, hf⟩, .inr fun q hq hqp hqk => ?_, fun e he ht ho => ?_⟩
  ·have hm : (⟨tl s.disk q, q⟩ : Ent) ∈ s.index := by rw [g.index]; exact (scan_mem g.tight.good _).2 ⟨q, hq, hqk, rfl⟩
   have := mMax_ge (sRecs s) (tl s.disk q) (List.mem_map.2 ⟨_, hm, rfl⟩)
   rw [er]
   show (tl s.disk q).ver ≠ mNext (sRecs s)
   unfold mNext
   omega
  ·rw [e3, g.index]
   exact scan_ins g.tight.good he hp hk hf ht ho
theorem tell_same {d : Dsk} (h : dTight d) {q : Nat} (hq : q < 6) : fTell d (fTwice d) q = tl d q := by
 unfold tl
 by_cases hk : (pLook d q).2.kind = 1
 ·have e := rFree_of (pLook_right d q) hk
  unfold fTell
  split
  ·exact e.symm
  ·rfl
 ·have hn : hadB d q (pLook d q).2.ver = false := by
   rw [Bool.eq_false_iff]
   intro hh
   obtain ⟨i, hi, h1, h2⟩ := (hadB_iff _ _ _).1 hh
   exact h.vers i q (by omega) hq (by omega) h1 hk h2
  exact fTell_told ((fTell_kind h.good hq).2 ⟨hk, hn⟩)
theorem step_tight {s : Sto} (g : tGood s) {x : Stp} (hx : gentle s x = true) :
  tGood (yDo s x).1 ∧ ((yDo s x).1.index = s.index ∨ ((x.kind = 1 ∨ x.kind = 2) ∧ (sBegin s x.deed).2.2 = 0 ∧ (yDo s x).1.index = (sBegin s x.deed).1.index)) ∧
   (x.kind = 1 → (sBegin s x.deed).2.2 = 0 → (yDo s x).1.index = (sBegin s x.deed).1.index) := by
 have sg := step_good g.good x
 have hd := g.tight.good
 unfold gentle at hx
 unfold yDo at sg ⊢
 split
 ·rename_i hk
  rw [if_pos hk] at sg
  unfold sDo at sg ⊢
  split
  ·rename_i h
   rw [if_pos h] at sg
   obtain ⟨p, r, m, e1, e2⟩ := meant g h
   have hfl := flush_put hd m.p6 m.right
   rw [e1, hfl] at sg ⊢
   have gd := setPair_good hd m.p6 m.right
   have ht1 : tl ⟨setPair s.disk.blocks p r, []⟩ p = r := by rw [setPair_tl hd m.p6 m.right m.p6, if_pos rfl]
   have ht2 : ∀ q : Nat, q < 6 → q ≠ p → tl ⟨setPair s.disk.blocks p r, []⟩ q = tl s.disk q := fun q hq hqp => by rw [setPair_tl hd m.p6 m.right hq, if_neg hqp]
   have hs := m.scan _ gd ht1 ht2
   refine ⟨⟨sg, hs.symm, tight_one g.tight gd ht2 (fun q hq => setPair_clash hd g.tight.clash m.p6 m.right hq) ?_⟩, .inr ⟨.inl hk, h, rfl⟩, fun _ _ => rfl⟩
   rw [ht1]
   exact m.new
  ·rename_i h
   rw [(begin_err h).1]
   exact ⟨g, .inl rfl, fun _ h' => absurd h' h⟩
 ·rename_i hk1
  rw [if_neg hk1] at sg
  refine ⟨?_, ?_, fun h => absurd h hk1⟩
  ·split
   ·rename_i hk
    rw [if_pos hk] at sg
    split
    ·rename_i h
     rw [(begin_err h).1]
     exact g
    ·rename_i h
     rw [if_neg h] at sg
     obtain ⟨p, r, m, e1, _⟩ := meant g (d := x.deed) (by simpa using h)
     rw [e1] at sg ⊢
     obtain ⟨a, b, c, f⟩ := keep_look hd m.p6 m.right (g.tight.clash p m.p6) m.how x.n
     have ek : dKeep (dKeep (pPut s.disk p r).1 x.n) 0 = dKeep (pPut s.disk p r).1 x.n := keep_good a
     have hm : sMount (dKeep (pPut s.disk p r).1 x.n) = ⟨dKeep (pPut s.disk p r).1 x.n, iScan (dKeep (pPut s.disk p r).1 x.n), 0⟩ := by unfold sMount; rw [ek]
     simp only [hm] at sg ⊢
     have ht2 : ∀ q : Nat, q < 6 → q ≠ p → tl (dKeep (pPut s.disk p r).1 x.n) q = tl s.disk q := fun q hq hqp => by unfold tl; rw [b q hq hqp]
     have hcl : ∀ q : Nat, q < 6 → (pLook (dKeep (pPut s.disk p r).1 x.n) q).1 ≠ 5 := fun q hq => by
      by_cases e : q = p
      ·subst e; exact c
      ·rw [b q hq e]; exact g.tight.clash q hq
     refine ⟨sg, rfl, ?_⟩
     rcases f with f | f
     ·exact tight_tl g.tight a (fun q hq => by
       by_cases e : q = p
       ·subst e; exact f
       ·exact ht2 q hq e) hcl
     ·exact tight_one g.tight a ht2 hcl (by rw [f]; exact m.new)
   ·rename_i hk2
    rw [if_neg hk2] at sg
    split
    ·rename_i hk3
     rw [if_pos hk3] at sg
     split
     ·exact g
     ·rename_i hr
      rw [if_neg hr] at sg
      have hlen := hd.len
      rw [if_neg (by omega)] at hx
      have hx : (pLook s.disk (x.n / 32)).1 < 2 := by simpa using hx
      obtain ⟨a, b⟩ := spoil_look hd (n := x.n) (y := x.m) (by omega) (by omega) hx
      have gd := spoil_good hd (x.n / 16) (x.n % 16) x.m
      refine ⟨sg, ?_, tight_tl g.tight gd a fun q hq => b q hq (g.tight.clash q hq)⟩
      show s.index = iScan _
      rw [g.index]
      exact (scan_same hd gd a).symm
    ·rename_i hk3
     rw [if_neg hk3] at sg
     split
     ·rename_i hk4
      rw [if_pos hk4] at sg
      rw [scOne_good g.good] at sg ⊢
      have hn := g.good.next
      have en : ((s.next.toNat : Nat) : Int) = s.next := by omega
      have hr := pLook_right s.disk s.next
      have gd := setPair_good hd (p := s.next.toNat) (by omega) hr
      refine ⟨sg, rfl, tight_tl g.tight gd (fun q hq => ?_) fun q hq => setPair_clash hd g.tight.clash (by omega) hr hq⟩
      rw [setPair_tl hd (by omega) hr hq]
      split
      ·rename_i e
       subst e
       unfold tl
       rw [en]
      ·rfl
     ·rename_i hk4
      rw [if_neg hk4] at sg
      split
      ·rename_i hk5
       rw [if_pos hk5] at sg
       rw [fClean_eq hd.even, keep_good hd] at sg ⊢
       have gd := clean_good s.disk
       have hm : sMount ⟨fBlocks (fTell s.disk (fTwice s.disk)), []⟩ = ⟨⟨fBlocks (fTell s.disk (fTwice s.disk)), []⟩, iScan ⟨fBlocks (fTell s.disk (fTwice s.disk)), []⟩, 0⟩ := by unfold sMount; rw [keep_good gd]
       simp only [hm] at sg ⊢
       refine ⟨sg, rfl, tight_tl g.tight gd (fun q hq => ?_) fun q hq => by rw [clean_look _ hq]; simp only; split <;> omega⟩
       have hq1 : tl ⟨fBlocks (fTell s.disk (fTwice s.disk)), []⟩ q = fTell s.disk (fTwice s.disk) q := by unfold tl; rw [clean_look _ hq]
       rw [hq1]
       exact tell_same g.tight hq
      ·rename_i hk5
       rw [if_neg hk5] at sg
       split
       ·rename_i hk6
        rw [if_pos hk6] at sg
        have hm : sMount s.disk = ⟨s.disk, iScan s.disk, 0⟩ := by unfold sMount; rw [keep_good hd]
        simp only [hm] at sg ⊢
        exact ⟨sg, rfl, g.tight⟩
       ·exact g
  ·split
   ·rename_i hk
    split
    ·rename_i h
     rw [(begin_err h).1]
     exact .inl rfl
    ·rename_i h
     have h0 : (sBegin s x.deed).2.2 = 0 := by simpa using h
     obtain ⟨p, r, m, e1, _⟩ := meant g h0
     obtain ⟨a, b, c, f⟩ := keep_look hd m.p6 m.right (g.tight.clash p m.p6) m.how x.n
     rw [e1]
     have ek : dKeep (dKeep (pPut s.disk p r).1 x.n) 0 = dKeep (pPut s.disk p r).1 x.n := keep_good a
     have hm : (sMount (dKeep (pPut s.disk p r).1 x.n)).index = iScan (dKeep (pPut s.disk p r).1 x.n) := by unfold sMount; rw [ek]
     simp only [hm]
     have ht2 : ∀ q : Nat, q < 6 → q ≠ p → tl (dKeep (pPut s.disk p r).1 x.n) q = tl s.disk q := fun q hq hqp => by unfold tl; rw [b q hq hqp]
     rcases f with f | f
     ·refine .inl ?_
      rw [g.index]
      exact scan_same hd a fun q hq => by
       by_cases e : q = p
       ·subst e; exact f
       ·exact ht2 q hq e
     ·exact .inr ⟨.inr hk, h0, m.scan _ a f ht2⟩
   ·split
    ·split <;> exact .inl rfl
    ·rename_i hk2 hk3
     refine .inl ?_
     split
     ·rename_i hk4
      rw [scOne_good g.good]
      have hn := g.good.next
      have en : ((s.next.toNat : Nat) : Int) = s.next := by omega
      have hr := pLook_right s.disk s.next
      have gd := setPair_good hd (p := s.next.toNat) (by omega) hr
      show iScan _ = s.index
      rw [g.index]
      refine scan_same hd gd fun q hq => ?_
      rw [setPair_tl hd (by omega) hr hq]
      split
      ·rename_i e
       subst e
       unfold tl
       rw [en]
      ·rfl
     ·split
      ·rw [fClean_eq hd.even, keep_good hd]
       have gd := clean_good s.disk
       have hm : (sMount ⟨fBlocks (fTell s.disk (fTwice s.disk)), []⟩).index = iScan ⟨fBlocks (fTell s.disk (fTwice s.disk)), []⟩ := by unfold sMount; rw [keep_good gd]
       simp only [hm]
       rw [g.index]
       refine scan_same hd gd fun q hq => ?_
       have hq1 : tl ⟨fBlocks (fTell s.disk (fTwice s.disk)), []⟩ q = fTell s.disk (fTwice s.disk) q := by unfold tl; rw [clean_look _ hq]
       rw [hq1]
       exact tell_same g.tight hq
      ·split
       ·have hm : (sMount s.disk).index = iScan s.disk := by unfold sMount; rw [keep_good hd]
        simp only [hm]
        exact g.index.symm
       ·rfl
end Go.Proofs.YtdmnmfnmaccmoaaGreatDoor
/- Plain: the laws of the store, of play, and of what may be (chapters 8, 11 and 12). -/
namespace Go.Proofs.YtdmnmfnmaccmoaaGreatDoor
theorem new_tight : tGood sNew := by
 have e : (dFree : Dsk) = ⟨fBlocks fun _ => rFree, []⟩ := rfl
 have hm : sNew = ⟨dFree, iScan dFree, 0⟩ := by unfold sNew sMount; rw [keep_good dFree_good]
 have hl : ∀ q : Nat, q < 6 → pLook dFree q = (0, rFree) := fun q hq => by rw [e, fBlocks_look _ (fun _ _ => rWrong_free) hq]; rfl
 refine ⟨new_good, by rw [hm], ?_⟩
 rw [hm]
 refine ⟨dFree_good, fun p q hp _ _ h _ => ?_, fun p hp => by rw [hl p hp]; simp⟩
 exfalso
 apply h
 unfold tl
 rw [hl p hp]
 rfl
theorem mSame_perm {l m : List Rec} (h : l.Perm m) : mSame l m = true := by
 unfold mSame
 simp only [Bool.and_eq_true, List.all_eq_true, List.any_eq_true, decide_eq_true_eq]
 exact ⟨fun r hr => ⟨r, h.subset hr, (rSame_iff r r).2 rfl⟩, h.length_eq⟩
theorem recs_ins (l : List Ent) (e : Ent) : ((iIns l e).map fun x => x.rcd).Perm ((l.map fun x => x.rcd) ++ [e.rcd]) := by
 have := (iIns_perm l e).map fun x => x.rcd
 simpa using this
theorem drop_not {l : List Ent} {p : Int} (h : ∀ e ∈ l, e.pair ≠ p) : iDrop l p = l := by
 unfold iDrop
 rw [List.filter_eq_self]
 intro e he
 simpa using h e he
theorem recs_drop {k v p : Int} : ∀ {l : List Ent} {e : Ent}, (l.Pairwise fun a b => a.pair ≠ b.pair) → iFind l k v = some e → e.pair = p →
  ((iDrop l p).map fun x => x.rcd) = (l.map fun x => x.rcd).eraseIdx (mIdx (l.map fun x => x.rcd) k v)
 | [], e, _, h, _ => by simp [iFind] at h
 | y :: l, e, hp, h, he => by
  obtain ⟨h1, h2⟩ := List.pairwise_cons.1 hp
  unfold iFind at h
  by_cases hy : y.rcd.key = k ∧ y.rcd.ver = v
  ·rw [List.find?_cons_of_pos (by simpa using hy)] at h
   injection h with h
   subst h
   subst he
   have e0 : mIdx ((y :: l).map fun x => x.rcd) k v = 0 := by
    unfold mIdx
    rw [List.map_cons, List.findIdx_cons, (mHit_iff _ _ _).2 hy]
    rfl
   rw [e0]
   unfold iDrop
   rw [List.filter_cons_of_neg (by simp)]
   have := drop_not (l := l) (p := y.pair) fun e he => (h1 e he).symm
   unfold iDrop at this
   rw [this]
   rfl
  ·rw [List.find?_cons_of_neg (by simpa using hy)] at h
   have ih := recs_drop h2 (show iFind l k v = some e from h) he
   have hne : y.pair ≠ p := by rw [← he]; exact h1 e (List.mem_of_find?_eq_some h)
   have hm : mHit k v y.rcd = false := by
    rw [Bool.eq_false_iff]
    intro hh
    exact hy ((mHit_iff _ _ _).1 hh)
   have e0 : mIdx ((y :: l).map fun x => x.rcd) k v = mIdx (l.map fun x => x.rcd) k v + 1 := by
    unfold mIdx
    rw [List.map_cons, List.findIdx_cons, hm]
    rfl
   rw [e0]
   unfold iDrop at ih ⊢
   rw [List.filter_cons_of_pos (by simpa using hne), List.map_cons, List.map_cons, List.eraseIdx_cons_succ, ih]
theorem recs_meant {s : Sto} (g : sGood s) {d : Ded} (h : (sBegin s d).2.2 = 0) : (((sBegin s d).1.index).map fun e => e.rcd).Perm (mDo (sRecs s) d).1 := by
 obtain ⟨_, hd, p, r, _, _, _, _, _, hc⟩ := begin_ok g h
 rcases hc with ⟨hk, _, ⟨e, _, hf, hp, h1, h2⟩, e3⟩ | ⟨hk, rfl, _, _, _, e3⟩
 ·rw [e3, recs_drop g.right.2.2 hf hp]
  unfold mDo at hd ⊢
  rw [if_pos hk] at hd ⊢
  split at hd
  ·rename_i hlt
   rw [if_pos hlt]
   exact List.Perm.refl _
  ·cases hd
 ·rw [e3, (mDo_made hk hd).2.2]
  exact recs_ins _ _
theorem begin_zero {s : Sto} (g : sGood s) {d : Ded} (hw : mWrong d = 0) (hd : (mDo (sRecs s) d).2.2 = 0) : (sBegin s d).2.2 = 0 := by
 unfold sBegin
 rw [if_neg (by simpa using hw), if_neg (by simpa using hd)]
 split
 ·rfl
 ·rename_i hk
  obtain ⟨a, _, _⟩ := mDo_made hk hd
  have hl : s.index.length < 6 := by simpa [sRecs] using a
  obtain ⟨f0, _, _⟩ := free_found 6 hl
  have h12 : (s.disk.blocks.length : Int) / 2 = (6 : Nat) := by rw [g.disk.len]; rfl
  rw [h12, if_neg (by omega)]
theorem mDo_err {l : List Rec} {d : Ded} (h : (mDo l d).2.2 ≠ 0) : (mDo l d).1 = l ∧ (mDo l d).2.1 = 0 := by
 unfold mDo at h ⊢
 split
 ·rename_i hk
  rw [if_pos hk] at h
  split
  ·rename_i h1; rw [if_pos h1] at h; exact absurd rfl h
  ·exact ⟨rfl, rfl⟩
 ·rename_i hk
  rw [if_neg hk] at h
  split
  ·exact ⟨rfl, rfl⟩
  ·rename_i h1
   rw [if_neg h1] at h
   split
   ·exact ⟨rfl, rfl⟩
   ·rename_i h2
    rw [if_neg h2] at h
    exact absurd rfl h
theorem store_model {s : Sto} (g : tGood s) (d : Ded) (hw : mWrong d = 0) :
  (sDo s d).2.2 = (mDo (sRecs s) d).2.2 ∧ (sDo s d).2.1 = (mDo (sRecs s) d).2.1 ∧ (sRecs (sDo s d).1).Perm (mDo (sRecs s) d).1 ∧ (sRecs (sMount (sDo s d).1.disk)).Perm (mDo (sRecs s) d).1 := by
 have st := step_tight g (x := ⟨1, 0, 0, d⟩) (by unfold gentle; rw [if_pos (.inl (by simp))])
 have ey : yDo s ⟨1, 0, 0, d⟩ = sDo s d := by unfold yDo; rw [if_pos rfl]
 rw [ey] at st
 have hmount : sRecs (sMount (sDo s d).1.disk) = sRecs (sDo s d).1 := by
  unfold sRecs sMount
  rw [keep_good st.1.tight.good, ← st.1.index]
 rw [hmount]
 by_cases hd : (mDo (sRecs s) d).2.2 = 0
 ·have h0 := begin_zero g.good hw hd
  have hi := st.2.2 rfl h0
  have hp := recs_meant g.good h0
  obtain ⟨_, _, _, _, _, _, _, _, e, _⟩ := begin_ok g.good h0
  have ed : sDo s d = (⟨dFlush (sBegin s d).1.disk, (sBegin s d).1.index, (sBegin s d).1.next⟩, (sBegin s d).2.1, 0) := by unfold sDo; rw [if_pos h0]
  have hr : (sRecs (sDo s d).1).Perm (mDo (sRecs s) d).1 := by
   unfold sRecs at hp ⊢
   rw [hi]
   exact hp
  refine ⟨by rw [ed, hd], by rw [ed]; exact e, hr, hr⟩
 ·obtain ⟨e1, e2⟩ := mDo_err hd
  have eb : sBegin s d = (s, 0, (mDo (sRecs s) d).2.2) := by
   unfold sBegin
   rw [if_neg (by simpa using hw), if_pos hd]
  have ed : sDo s d = (s, 0, (mDo (sRecs s) d).2.2) := by unfold sDo; rw [eb, if_neg hd]
  rw [ed, e1, e2]
  exact ⟨rfl, rfl, List.Perm.refl _, List.Perm.refl _⟩
theorem step_recs {s : Sto} (g : tGood s) {x : Stp} (hx : gentle s x = true) :
  sRecs (yDo s x).1 = sRecs s ∨ ((x.kind = 1 ∨ x.kind = 2) ∧ mWrong x.deed = 0 ∧ (mDo (sRecs s) x.deed).2.2 = 0 ∧ (sRecs (yDo s x).1).Perm (mDo (sRecs s) x.deed).1) := by
 rcases (step_tight g hx).2.1 with e | ⟨hk, h0, e⟩
 ·left; unfold sRecs; rw [e]
 ·right
  have hp := recs_meant g.good h0
  obtain ⟨a, b, _⟩ := begin_ok g.good h0
  refine ⟨hk, a, b, ?_⟩
  unfold sRecs at hp ⊢
  rw [e]
  exact hp
def yLists (l : List Rec) (x : Stp) : List (List Rec) :=
 if (x.kind ≠ 1 ∧ x.kind ≠ 2) ∨ mWrong x.deed ≠ 0 then [l]
 else if (mDo l x.deed).2.2 ≠ 0 then [l]
 else if x.kind = 2 then [l, (mDo l x.deed).1]
 else [(mDo l x.deed).1]
theorem may_walk {s : Sto} (g : tGood s) {x : Stp} (hx : gentle s x = true) : (yLists (sRecs s) x).any (fun l => mSame l (sRecs (yDo s x).1)) = true := by
 have same : mSame (sRecs s) (sRecs s) = true := mSame_refl _
 by_cases hk : (x.kind = 1 ∨ x.kind = 2) ∧ mWrong x.deed = 0 ∧ (mDo (sRecs s) x.deed).2.2 = 0
 ·obtain ⟨hk, hw, hd⟩ := hk
  unfold yLists
  rw [if_neg (by simp only [hw]; omega), if_neg (by simpa using hd)]
  rcases hk with h1 | h2
  ·rw [if_neg (by omega)]
   have h0 := begin_zero g.good hw hd
   have hi := (step_tight g hx).2.2 h1 h0
   have hp := recs_meant g.good h0
   have hp' : (sRecs (yDo s x).1).Perm (mDo (sRecs s) x.deed).1 := by
    unfold sRecs at hp ⊢
    rw [hi]
    exact hp
   simp [mSame_perm hp'.symm]
  ·rw [if_pos h2]
   rcases step_recs g hx with e | ⟨_, _, _, hp⟩
   ·rw [e]; simp [same]
   ·simp [mSame_perm hp.symm]
 ·have e : yLists (sRecs s) x = [sRecs s] := by
   unfold yLists
   split
   ·rfl
   ·rename_i h1
    split
    ·rfl
    ·rename_i h2
     exact absurd ⟨by omega, by simpa using fun h => h1 (.inr h), by simpa using h2⟩ hk
  rcases step_recs g hx with e' | ⟨a, b, c, _⟩
  ·rw [e, e']; simp [same]
  ·exact absurd ⟨a, b, c⟩ hk
def yWalkTo (s : Sto) : List Stp → Nat
 | [] => 0
 | x :: l => if gentle s x = true then yWalkTo (yDo s x).1 l + 1 else 0
theorem play_fits {s : Sto} (g : tGood s) : s.index = iScan s.disk ∧ fTwice s.disk = [] ∧ (sMount s.disk).index = s.index := by
 refine ⟨g.index, ?_, ?_⟩
 ·rw [fTwice12 g.tight.good]
  refine tTo_nil 6 fun i hi hk => ?_
  rw [Bool.eq_false_iff]
  intro hh
  obtain ⟨q, hq, h1, h2⟩ := (hadB_iff _ _ _).1 hh
  exact g.tight.vers q i (by omega) hi (by omega) h1 hk h2
 ·unfold sMount
  rw [keep_good g.tight.good, ← g.index]
end Go.Proofs.YtdmnmfnmaccmoaaGreatDoor
/- Plain: keys listed, at once and page by page (chapter 8). -/
namespace Go.Proofs.YtdmnmfnmaccmoaaGreatDoor
def lStep (ok : Int → Bool) (start most : Int) (out : List Int) (k : Int) : List Int :=
 if k < start ∨ most ≤ (out.length : Int) ∨ out.getLast? = some k then out else if ok k = true then out ++ [k] else out
def sOk (s : Sto) (k : Int) : Bool := decide ((sGet s k).2 = 0)
def sList (s : Sto) (start most : Int) : List Int := (s.index.map fun e => e.rcd.key).foldl (lStep (sOk s) start most) []
def kRange : List Int := (List.range 255).map fun i : Nat => (i : Int) + 1
def kAll (s : Sto) : List Int := kRange.filter (sOk s)
theorem int_ext : ∀ {l m : List Int}, l.Pairwise (· < ·) → m.Pairwise (· < ·) → (∀ x, x ∈ l ↔ x ∈ m) → l = m
 | [], [], _, _, _ => rfl
 | [], y :: m, _, _, h => absurd ((h y).2 (by simp)) (by simp)
 | x :: l, [], _, _, h => absurd ((h x).1 (by simp)) (by simp)
 | x :: l, y :: m, hl, hm, h => by
  obtain ⟨l1, l2⟩ := List.pairwise_cons.1 hl
  obtain ⟨m1, m2⟩ := List.pairwise_cons.1 hm
  have e : x = y := by
   rcases List.mem_cons.1 ((h x).1 (by simp)) with e | hx
   ·exact e
   ·rcases List.mem_cons.1 ((h y).2 (by simp)) with e | hy
    ·exact e.symm
    ·have := l1 y hy; have := m1 x hx; omega
  subst e
  congr 1
  refine int_ext l2 m2 fun z => ?_
  constructor
  ·intro hz
   rcases List.mem_cons.1 ((h z).1 (by simp [hz])) with e | hz'
   ·have := l1 z hz; omega
   ·exact hz'
  ·intro hz
   rcases List.mem_cons.1 ((h z).2 (by simp [hz])) with e | hz'
   ·have := m1 z hz; omega
   ·exact hz'
def lStep0 (ok : Int → Bool) (start : Int) (out : List Int) (k : Int) : List Int :=
 if k < start ∨ out.getLast? = some k then out else if ok k = true then out ++ [k] else out
theorem lStep_take (ok : Int → Bool) (start most : Int) : ∀ l : List Int, l.foldl (lStep ok start most) [] = (l.foldl (lStep0 ok start) []).take most.toNat := by
 intro l
 rw [← List.reverse_reverse l]
 generalize l.reverse = m
 induction m with
 | nil => simp
 | cons x m ih =>
  rw [List.reverse_cons, List.foldl_append, List.foldl_append, ih]
  generalize m.reverse.foldl (lStep0 ok start) [] = L
  show lStep ok start most (L.take most.toNat) x = (lStep0 ok start L x).take most.toNat
  unfold lStep lStep0
  by_cases h1 : x < start
  ·rw [if_pos (.inl h1), if_pos (.inl h1)]
  ·by_cases h3 : most ≤ ((L.take most.toNat).length : Int)
   ·rw [if_pos (.inr (.inl h3))]
    rw [List.length_take] at h3
    split
    ·rfl
    ·split
     ·rw [List.take_append_of_le_length (by omega)]
     ·rfl
   ·have h4 : L.length < most.toNat := by rw [List.length_take] at h3; omega
    rw [List.take_of_length_le (by omega)] at h3 ⊢
    by_cases h2 : L.getLast? = some x
    ·rw [if_pos (.inr (.inr h2)), if_pos (.inr h2), List.take_of_length_le (by omega)]
    ·have c1 : ¬ (x < start ∨ most ≤ (L.length : Int) ∨ L.getLast? = some x) := by rintro (h | h | h); exact h1 h; exact h3 h; exact h2 h
     have c2 : ¬ (x < start ∨ L.getLast? = some x) := by rintro (h | h); exact h1 h; exact h2 h
     rw [if_neg c1, if_neg c2]
     split
     ·rw [List.take_of_length_le (by simp; omega)]
     ·rw [List.take_of_length_le (by omega)]
theorem lStep0_spec (ok : Int → Bool) (start : Int) (l : List Int) (h : l.Pairwise (· ≤ ·)) :
  (l.foldl (lStep0 ok start) []).Pairwise (· < ·) ∧ (l.foldl (lStep0 ok start) []).length ≤ l.length ∧ ∀ x, x ∈ l.foldl (lStep0 ok start) [] ↔ x ∈ l ∧ start ≤ x ∧ ok x = true := by
 rw [← List.reverse_reverse l] at h ⊢
 generalize l.reverse = m at h ⊢
 induction m with
 | nil => simp
 | cons x m ih =>
  rw [List.reverse_cons] at h ⊢
  obtain ⟨h1, _, h2⟩ := List.pairwise_append.1 h
  obtain ⟨a, b, c⟩ := ih h1
  rw [List.foldl_append]
  generalize hL : m.reverse.foldl (lStep0 ok start) [] = L at a b c
  show (lStep0 ok start L x).Pairwise (· < ·) ∧ (lStep0 ok start L x).length ≤ _ ∧ ∀ y, y ∈ lStep0 ok start L x ↔ _
  have hle : ∀ y ∈ L, y ≤ x := fun y hy => h2 y ((c y).1 hy).1 x (by simp)
  unfold lStep0
  split
  ·rename_i hc
   refine ⟨a, by rw [List.length_append]; omega, fun y => ?_⟩
   rw [c y, List.mem_append]
   constructor
   ·rintro ⟨h, h'⟩; exact ⟨.inl h, h'⟩
   ·rintro ⟨h | h, h'⟩
    ·exact ⟨h, h'⟩
    ·obtain rfl := List.mem_singleton.1 h
     rcases hc with hc | hc
     ·omega
     ·exact ⟨((c y).1 (List.mem_of_getLast? hc)).1, h'⟩
  ·rename_i hc
   split
   ·rename_i hok
    have hlt : ∀ y ∈ L, y < x := by
     intro y hy
     have h3 := hle y hy
     rcases Int.lt_or_eq_of_le h3 with h4 | h4
     ·exact h4
     ·exfalso
      subst h4
      apply hc
      right
      -- y is the last one: all others are below
      obtain ⟨z, hz⟩ : ∃ z, L.getLast? = some z := by
       cases hL' : L.getLast? with
       | none => rw [List.getLast?_eq_none_iff] at hL'; rw [hL'] at hy; cases hy
       | some z => exact ⟨z, rfl⟩
      rw [hz]
      have hzm := List.mem_of_getLast? hz
      have h5 := hle z hzm
      obtain ⟨pre, hpre⟩ := List.getLast?_eq_some_iff.1 hz
      rw [hpre] at hy a
      rcases List.mem_append.1 hy with h6 | h6
      ·have := (List.pairwise_append.1 a).2.2 y h6 z (by simp)
       omega
      ·rw [List.mem_singleton.1 h6]
    refine ⟨?_, by simp only [List.length_append]; simp at b ⊢; omega, fun y => ?_⟩
    ·rw [List.pairwise_append]
     exact ⟨a, List.pairwise_singleton _ _, fun y hy z hz => by rw [List.mem_singleton.1 hz]; exact hlt y hy⟩
    ·rw [List.mem_append, List.mem_append, c y]
     constructor
     ·rintro (⟨h, h'⟩ | h)
      ·exact ⟨.inl h, h'⟩
      ·obtain rfl := List.mem_singleton.1 h
       exact ⟨.inr (by simp), by omega, hok⟩
     ·rintro ⟨h | h, h'⟩
      ·exact .inl ⟨h, h'⟩
      ·exact .inr h
   ·rename_i hok
    refine ⟨a, by rw [List.length_append]; omega, fun y => ?_⟩
    rw [c y, List.mem_append]
    constructor
    ·rintro ⟨h, h'⟩; exact ⟨.inl h, h'⟩
    ·rintro ⟨h | h, h'⟩
     ·exact ⟨h, h'⟩
     ·obtain rfl := List.mem_singleton.1 h
      exact absurd h'.2 hok
theorem kRange_mem (x : Int) : x ∈ kRange ↔ 1 ≤ x ∧ x ≤ 255 := by
 unfold kRange
 simp only [List.mem_map, List.mem_range]
 constructor
 ·rintro ⟨i, hi, rfl⟩; omega
 ·rintro ⟨h1, h2⟩; exact ⟨(x - 1).toNat, by omega, by omega⟩
theorem kRange_sorted : kRange.Pairwise (· < ·) := by
 unfold kRange
 rw [List.pairwise_map]
 refine List.Pairwise.imp ?_ List.pairwise_lt_range
 intro a b h
 omega
theorem mLast_none {l : List Rec} {k : Int} (h : ∀ r ∈ l, r.key ≠ k) : mLast l k = rZero := by
 unfold mLast
 have : ∀ (m : List Rec) (x : Rec), (∀ r ∈ m, r.key ≠ k) → m.foldl (fun x r => if r.key = k ∧ x.ver < r.ver then r else x) x = x := by
  intro m
  induction m with
  | nil => intro x _; rfl
  | cons r m ih =>
   intro x hm
   rw [List.foldl_cons, if_neg (fun h => hm r (by simp) h.1)]
   exact ih x fun y hy => hm y (by simp [hy])
 exact this l rZero h
theorem sOk_key {s : Sto} {k : Int} (h : sOk s k = true) : ∃ e ∈ s.index, e.rcd.key = k := by
 apply Classical.byContradiction
 intro hno
 have : mLast (sRecs s) k = rZero := mLast_none fun r hr e => by
  obtain ⟨x, hx, rfl⟩ := List.mem_map.1 hr
  exact hno ⟨x, hx, e⟩
 unfold sOk sGet mGet at h
 rw [this] at h
 simp [rZero] at h
theorem keys_sorted {l : List Ent} (h : l.Pairwise eLt) : (l.map fun e => e.rcd.key).Pairwise (· ≤ ·) := by
 rw [List.pairwise_map]
 exact h.imp fun {a b} hab => by unfold eLt at hab; omega
theorem list_all {s : Sto} (g : iRight s.index) (start : Int) : (s.index.map fun e => e.rcd.key).foldl (lStep0 (sOk s) start) [] = (kAll s).filter fun k => decide (start ≤ k) := by
 obtain ⟨a, _, c⟩ := lStep0_spec (sOk s) start _ (keys_sorted g.2.1)
 refine int_ext a ((kRange_sorted.filter _).filter _) fun x => ?_
 rw [c x]
 unfold kAll
 simp only [List.mem_filter, kRange_mem, decide_eq_true_eq]
 constructor
 ·rintro ⟨h1, h2, h3⟩
  obtain ⟨e, he, rfl⟩ := List.mem_map.1 h1
  have := g.1 e he
  unfold eOne at this
  simp only [Bool.and_eq_true] at this
  have := rOne_spec this.1.1
  exact ⟨⟨⟨by omega, by omega⟩, h3⟩, h2⟩
 ·rintro ⟨⟨_, h3⟩, h2⟩
  obtain ⟨e, he, e'⟩ := sOk_key h3
  exact ⟨List.mem_map.2 ⟨e, he, e'⟩, h2, h3⟩
theorem sList_eq {s : Sto} (g : iRight s.index) (start most : Int) : sList s start most = ((kAll s).filter fun k => decide (start ≤ k)).take most.toNat := by
 unfold sList
 rw [lStep_take, list_all g]
theorem kAll_length {s : Sto} (g : iRight s.index) : (kAll s).length ≤ s.index.length := by
 have h := (lStep0_spec (sOk s) 1 _ (keys_sorted g.2.1)).2.1
 rw [list_all g] at h
 have e : ((kAll s).filter fun k => decide (1 ≤ k)) = kAll s := by
  rw [List.filter_eq_self]
  intro x hx
  unfold kAll at hx
  have := (kRange_mem x).1 (List.mem_filter.1 hx).1
  simpa using this.1
 rw [e] at h
 simpa using h
theorem pairs_length : ∀ (n : Nat) (l : List Ent), (l.Pairwise fun a b => a.pair ≠ b.pair) → (∀ e ∈ l, 0 ≤ e.pair ∧ e.pair < (n : Int)) → l.length ≤ n
 | 0, l, _, h => by
  cases l with
  | nil => simp
  | cons x l => have := h x (by simp); omega
 | n + 1, l, hp, h => by
  have h1 : (l.filter fun e => !decide (e.pair = (n : Int))).length ≤ n := by
   refine pairs_length n _ (hp.filter _) fun e he => ?_
   rw [List.mem_filter] at he
   have := h e he.1
   have h2 := he.2
   simp only [Bool.not_eq_true', decide_eq_false_iff_not] at h2
   omega
  have h2 : ∀ m : List Ent, (m.Pairwise fun a b => a.pair ≠ b.pair) → m.length ≤ (m.filter fun e => !decide (e.pair = (n : Int))).length + 1 := by
   intro m
   induction m with
   | nil => intro _; simp
   | cons x m ih =>
    intro hm
    obtain ⟨m1, m2⟩ := List.pairwise_cons.1 hm
    by_cases e : x.pair = (n : Int)
    ·have : (m.filter fun e => !decide (e.pair = (n : Int))) = m := by
      rw [List.filter_eq_self]
      intro y hy
      have := m1 y hy
      simp only [Bool.not_eq_true', decide_eq_false_iff_not]
      omega
     rw [List.filter_cons_of_neg (by simp [e]), this]
     simp
    ·rw [List.filter_cons_of_pos (by simpa using e)]
     have := ih m2
     simp only [List.length_cons]
     omega
  have := h2 l hp
  omega
theorem index_six {s : Sto} (g : sGood s) : s.index.length ≤ 6 := by
 refine pairs_length 6 s.index g.right.2.2 fun e he => ?_
 have := g.right.1 e he
 unfold eOne at this
 simp only [Bool.and_eq_true, decide_eq_true_eq] at this
 exact ⟨this.1.2, g.pairs e he⟩
theorem kAll_sorted (s : Sto) : (kAll s).Pairwise (· < ·) := kRange_sorted.filter _
theorem kAll_ok {s : Sto} {k : Int} (h : k ∈ kAll s) : sOk s k = true := (List.mem_filter.1 h).2
end Go.Proofs.YtdmnmfnmaccmoaaGreatDoor
