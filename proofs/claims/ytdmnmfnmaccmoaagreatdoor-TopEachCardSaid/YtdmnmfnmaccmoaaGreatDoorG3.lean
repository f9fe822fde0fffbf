/- Texts laid together: words, plain laws and walks of the program's functions (G3). -/
import Derived.Test.YtdmnmfnmaccmoaaGreatDoorG2
import Derived.Deep.Cut
import Derived.Deep.CutRange
/- Plain: stores, and steps (chapters 8 and 11). -/
namespace Go.Proofs.YtdmnmfnmaccmoaaGreatDoor
def sMount (d : Dsk) : Sto := ⟨dKeep d 0, iScan (dKeep d 0), 0⟩
def sRecs (s : Sto) : List Rec := s.index.map fun e => e.rcd
def eZero : Ent := ⟨rZero, 0⟩
def sBegin (s : Sto) (d : Ded) : Sto × Int × Int :=
 if mWrong d ≠ 0 then (s, 0, mWrong d)
 else if (mDo (sRecs s) d).2.2 ≠ 0 then (s, 0, (mDo (sRecs s) d).2.2)
 else if d.kind = 3 then
  (⟨(pPut s.disk ((iFind s.index d.key d.n).getD eZero).pair rFree).1, iDrop s.index ((iFind s.index d.key d.n).getD eZero).pair, s.next⟩, (mDo (sRecs s) d).2.1, 0)
 else if iFree s.index ((s.disk.blocks.length : Int) / 2) < 0 then (s, 0, 9)
 else (⟨(pPut s.disk (iFree s.index ((s.disk.blocks.length : Int) / 2)) (mMade d (mDo (sRecs s) d).2.1)).1,
   iIns s.index ⟨mMade d (mDo (sRecs s) d).2.1, iFree s.index ((s.disk.blocks.length : Int) / 2)⟩, s.next⟩, (mDo (sRecs s) d).2.1, 0)
def sDo (s : Sto) (d : Ded) : Sto × Int × Int :=
 if (sBegin s d).2.2 = 0 then (⟨dFlush (sBegin s d).1.disk, (sBegin s d).1.index, (sBegin s d).1.next⟩, (sBegin s d).2.1, 0) else sBegin s d
def sGet (s : Sto) (k : Int) : List UInt8 × Int := mGet (sRecs s) k
def yDo (s : Sto) (x : Stp) : Sto × Int × Int :=
 if x.kind = 1 then sDo s x.deed
 else if x.kind = 2 then
  if (sBegin s x.deed).2.2 ≠ 0 then ((sBegin s x.deed).1, 0, (sBegin s x.deed).2.2)
  else (sMount (dKeep (sBegin s x.deed).1.disk x.n), (sBegin s x.deed).2.1, 0)
 else if x.kind = 3 then
  if x.n < 0 ∨ 16 * (s.disk.blocks.length : Int) ≤ x.n then (s, 0, 3)
  else (⟨dSpoil s.disk (x.n / 16) (x.n % 16) x.m, s.index, s.next⟩, 0, 0)
 else if x.kind = 4 then ((scOne s).1, 0, 0)
 else if x.kind = 5 then (sMount (fClean s.disk).1, 0, 0)
 else if x.kind = 6 then (sMount s.disk, 0, 0)
 else (s, 0, 1)
def sNew : Sto := sMount dFree
theorem dFree_good : dGood dFree := by
 refine ⟨by simp [dFree], fun j hj => ?_, rfl⟩
 show (((List.range 12).map fun i : Nat => rBytes rFree (i : Int)).getD j []).length = 16
 simp only [List.getD_eq_getElem?_getD, List.getElem?_map, List.getElem?_range hj]
 exact rBytes_length (by decide)
theorem mount_good {d : Dsk} (h : dEven d) : sGood (sMount d) :=
 ⟨h.keep, (iScan_good h.keep).1, (iScan_good h.keep).2, by show (0 : Int) ≤ 0 ∧ (0 : Int) < 6; omega⟩
theorem new_good : sGood sNew := mount_good dFree_good.even
theorem spoil_good {d : Dsk} (h : dGood d) (k n y : Int) : dGood (dSpoil d k n y) := by
 unfold dSpoil
 split
 ·refine ⟨by simp only [List.length_set]; exact h.len, fun j hj => ?_, h.late⟩
  show ((d.blocks.set _ _).getD j []).length = 16
  rw [getD_set]
  split
  ·rename_i e
   rw [List.length_set, e.1]
   exact h.blk j hj
  ·exact h.blk j hj
 ·exact h
theorem keep_even {d : Dsk} (h : dEven d) (hl : LateIn d) (h16 : ∀ i, i < d.late.length → (d.late.getD i (0, [])).2.length = 16) (bits : Int) : dEven (dKeep d bits) := by
 refine ⟨by unfold dKeep; rw [kTo_length]; exact h.len, fun j hj => ?_⟩
 unfold dKeep
 simp only
 rcases kTo_some d.late bits d.blocks hl j d.late.length (Nat.le_refl _) with e | ⟨i, hi, _, e⟩
 ·rw [e]; exact h.blk j hj
 ·rw [← e]; exact h16 i hi
theorem cover_length : ∀ (n : Nat) (l : List Ent), (∀ i : Nat, i < n → ∃ e ∈ l, e.pair = (i : Int)) → n ≤ l.length
 | 0, _, _ => Nat.zero_le _
 | n + 1, l, h => by
  obtain ⟨e, he, hp⟩ := h n (by omega)
  have h1 : n ≤ (l.filter fun e => !decide (e.pair = (n : Int))).length := by
   refine cover_length n _ fun i hi => ?_
   obtain ⟨e', he', hp'⟩ := h i (by omega)
   refine ⟨e', ?_, hp'⟩
   rw [List.mem_filter]
   refine ⟨he', ?_⟩
   rw [hp']
   simp
   omega
  have h2 : (l.filter fun e => !decide (e.pair = (n : Int))).length < l.length := by
   rcases Nat.lt_or_ge (l.filter fun e => !decide (e.pair = (n : Int))).length l.length with h | h
   ·exact h
   ·have := List.length_filter_eq_length_iff.1 (Nat.le_antisymm (List.length_filter_le _ _) h) e he
    simp [hp] at this
  omega
theorem free_found {l : List Ent} (n : Nat) (h : l.length < n) : 0 ≤ iFree l n ∧ iFree l n < n ∧ ∀ e ∈ l, e.pair ≠ iFree l n := by
 unfold iFree
 rcases iFreeFrom_spec l (n : Int).toNat 0 with ⟨_, hall⟩ | ⟨i, h1, h2, h3, h4, _⟩
 ·exfalso
  have := cover_length n l fun i hi => (iUsed_iff l i).1 (hall i (by omega) (by simpa using hi))
  omega
 ·rw [h3]
  refine ⟨by omega, by simp at h2; omega, fun e he hp => ?_⟩
  have := (iUsed_iff l i).2 ⟨e, he, hp⟩
  rw [h4] at this
  cases this
theorem sRecs_right {s : Sto} (h : iRight s.index) : ∀ r ∈ sRecs s, rOne r = true := by
 intro r hr
 obtain ⟨e, he, rfl⟩ := List.mem_map.1 hr
 have := h.1 e he
 unfold eOne at this
 simp only [Bool.and_eq_true] at this
 exact this.1.1
theorem purge_found {s : Sto} {d : Ded} (hk : d.kind = 3) (h : (mDo (sRecs s) d).2.2 = 0) : ∃ e ∈ s.index, iFind s.index d.key d.n = some e ∧ e.rcd.key = d.key ∧ e.rcd.ver = d.n := by
 unfold mDo at h
 rw [if_pos hk] at h
 split at h
 ·rename_i hlt
  obtain ⟨r, hr, hh⟩ := mIdx_lt.1 hlt
  obtain ⟨e, he, rfl⟩ := List.mem_map.1 hr
  have hh := (mHit_iff _ _ _).1 hh
  cases hf : iFind s.index d.key d.n with
  | none =>
   unfold iFind at hf
   rw [List.find?_eq_none] at hf
   have := hf e he
   simp [hh] at this
  | some e' =>
   unfold iFind at hf
   have h1 := List.mem_of_find?_eq_some hf
   have h2 := List.find?_some hf
   simp only [Bool.and_eq_true, decide_eq_true_eq] at h2
   exact ⟨e', h1, rfl, h2⟩
 ·cases h
theorem mDo_made {l : List Rec} {d : Ded} (hk : d.kind ≠ 3) (h : (mDo l d).2.2 = 0) : l.length < 6 ∧ mNext l ≤ 60000 ∧ mDo l d = (l ++ [mMade d (mNext l)], mNext l, 0) := by
 unfold mDo at h ⊢
 rw [if_neg hk] at h ⊢
 split at h
 ·cases h
 ·split at h
  ·cases h
  ·rename_i h1 h2
   exact ⟨by omega, by omega, by rw [if_neg h1, if_neg h2]⟩
theorem begin_ok {s : Sto} (g : sGood s) {d : Ded} (h : (sBegin s d).2.2 = 0) :
  mWrong d = 0 ∧ (mDo (sRecs s) d).2.2 = 0 ∧ ∃ (p : Nat) (r : Rec), p < 6 ∧ rWrong r = 0 ∧ (sBegin s d).1.disk = (pPut s.disk p r).1 ∧ (sBegin s d).1.next = s.next ∧ (sBegin s d).2.1 = (mDo (sRecs s) d).2.1 ∧
   ((d.kind = 3 ∧ r = rFree ∧ (∃ e ∈ s.index, iFind s.index d.key d.n = some e ∧ e.pair = p ∧ e.rcd.key = d.key ∧ e.rcd.ver = d.n) ∧ (sBegin s d).1.index = iDrop s.index p) ∨
    (d.kind ≠ 3 ∧ r = mMade d (mNext (sRecs s)) ∧ rOne r = true ∧ (∀ e ∈ s.index, e.pair ≠ p) ∧ s.index.length < 6 ∧ (sBegin s d).1.index = iIns s.index ⟨r, p⟩)) := by
 unfold sBegin at h ⊢
 split at h
 ·rename_i h1; exact absurd h h1
 ·rename_i hw
  have hw : mWrong d = 0 := by simpa using hw
  split at h
  ·rename_i h1; exact absurd h h1
  ·rename_i hd
   have hd : (mDo (sRecs s) d).2.2 = 0 := by simpa using hd
   rw [if_neg (by simpa using hw), if_neg (by simpa using hd)]
   refine ⟨hw, hd, ?_⟩
   by_cases hk : d.kind = 3
   ·rw [if_pos hk]
    obtain ⟨e, he, hf, h1, h2⟩ := purge_found hk hd
    have hp := g.pairs e he
    have hp0 := g.right.1 e he
    unfold eOne at hp0
    simp only [Bool.and_eq_true, decide_eq_true_eq] at hp0
    rw [hf]
    simp only [Option.getD_some]
    have e' : e.pair = ((e.pair.toNat : Nat) : Int) := by omega
    refine ⟨e.pair.toNat, rFree, by omega, rWrong_free, by rw [← e'], by trivial, by trivial, .inl ⟨hk, rfl, ⟨e, he, rfl, e', h1, h2⟩, by rw [← e']⟩⟩
   ·rw [if_neg hk] at h ⊢
    obtain ⟨a, b, c⟩ := mDo_made hk hd
    have hl : s.index.length < 6 := by simpa [sRecs] using a
    obtain ⟨f0, f1, f2⟩ := free_found 6 hl
    have h12 : (s.disk.blocks.length : Int) / 2 = (6 : Nat) := by rw [g.disk.len]; rfl
    rw [h12] at h ⊢
    rw [if_neg (by omega), c]
    simp only
    have e' : iFree s.index (6 : Nat) = (((iFree s.index (6 : Nat)).toNat : Nat) : Int) := by omega
    have hb := mMax_bd _ (sRecs_right g.right)
    have hr : rOne (mMade d (mNext (sRecs s))) = true := mMade_one hw (by unfold mNext; omega) b
    have hr0 : rWrong (mMade d (mNext (sRecs s))) = 0 := by
     unfold rOne at hr
     simp only [Bool.and_eq_true, decide_eq_true_eq] at hr
     exact hr.1
    exact ⟨(iFree s.index (6 : Nat)).toNat, _, by omega, hr0, by rw [← e'], by trivial, by trivial, .inr ⟨hk, rfl, hr, fun e he => by rw [← e']; exact f2 e he, hl, by rw [← e']⟩⟩
theorem begin_err {s : Sto} {d : Ded} (h : (sBegin s d).2.2 ≠ 0) : (sBegin s d).1 = s ∧ (sBegin s d).2.1 = 0 := by
 unfold sBegin at h ⊢
 split
 ·exact ⟨rfl, rfl⟩
 ·rename_i h1
  rw [if_neg h1] at h
  split
  ·exact ⟨rfl, rfl⟩
  ·rename_i h2
   rw [if_neg h2] at h
   split
   ·rename_i h3
    rw [if_pos h3] at h
    exact absurd rfl h
   ·rename_i h3
    rw [if_neg h3] at h
    split
    ·exact ⟨rfl, rfl⟩
    ·rename_i h4
     rw [if_neg h4] at h
     exact absurd rfl h
theorem iDrop_sub (l : List Ent) (p : Int) : (iDrop l p).Sublist l := List.filter_sublist
theorem do_good {s : Sto} (g : sGood s) (d : Ded) : sGood (sDo s d).1 := by
 unfold sDo
 split
 ·rename_i h
  obtain ⟨_, _, p, r, hp, hr, e1, e2, _, hc⟩ := begin_ok g h
  rw [e1, e2, flush_put g.disk hp hr]
  have gd := setPair_good g.disk hp hr
  rcases hc with ⟨_, _, _, e3⟩ | ⟨_, _, h1, h2, _, e3⟩
  ·rw [e3]
   exact ⟨gd, iRight_sub g.right (iDrop_sub _ _), fun e he => g.pairs e ((iDrop_sub _ _).subset he), g.next⟩
  ·rw [e3]
   refine ⟨gd, iRight_ins g.right ?_ h2, fun e he => ?_, g.next⟩
   ·unfold eOne
    simp only [Bool.and_eq_true, decide_eq_true_eq]
    exact ⟨⟨h1, by omega⟩, by omega⟩
   ·rcases (iIns_mem _ _ _).1 he with rfl | he
    ·show (p : Int) < 6
     omega
    ·exact g.pairs e he
 ·rename_i h
  rw [(begin_err h).1]
  exact g
theorem put_even {d : Dsk} (h : dGood d) {p : Nat} (hp : p < 6) {r : Rec} (hr : rWrong r = 0) : dEven (pPut d p r).1 ∧ LateIn (pPut d p r).1 ∧ (∀ i, i < (pPut d p r).1.late.length → ((pPut d p r).1.late.getD i (0, [])).2.length = 16) ∧ (pPut d p r).1.late.length = 2 := by
 have hlen := h.len
 rw [pPut_in (h.in_ hp) hr, h.late]
 have b0 := rBytes_length (r := r) (k := 2 * (p : Int)) (rWrong_zero' hr).1
 have b1 := rBytes_length (r := r) (k := 2 * (p : Int) + 1) (rWrong_zero' hr).1
 refine ⟨⟨h.len, h.blk⟩, fun i hi => ?_, fun i hi => ?_, rfl⟩
 ·simp at hi
  rcases (by omega : i = 0 ∨ i = 1) with rfl | rfl
  ·simp; omega
  ·simp; omega
 ·simp at hi
  rcases (by omega : i = 0 ∨ i = 1) with rfl | rfl
  ·simp [b0]
  ·simp [b1]
theorem clean_good' (x : Dsk) (tw : List Int) : dGood ⟨fBlocks (fTell x tw), []⟩ := fBlocks_good _ fun _ _ => fTell_right _ _ _
theorem step_good {s : Sto} (g : sGood s) (x : Stp) : sGood (yDo s x).1 := by
 unfold yDo
 split
 ·exact do_good g _
 ·split
  ·split
   ·rename_i h
    rw [(begin_err h).1]
    exact g
   ·rename_i h
    obtain ⟨_, _, p, r, hp, hr, e1, _, _, _⟩ := begin_ok g (d := x.deed) (by simpa using h)
    rw [e1]
    obtain ⟨a, b, c, _⟩ := put_even g.disk hp hr
    exact mount_good (keep_even a b c _)
  ·split
   ·split
    ·exact g
    ·exact ⟨spoil_good g.disk _ _ _, g.right, g.pairs, g.next⟩
   ·split
    ·exact scOne_sGood g
    ·split
     ·exact mount_good (by rw [fClean_eq g.disk.even]; exact (clean_good' _ _).even)
     ·split
      ·exact mount_good g.disk.even
      ·exact g
end Go.Proofs.YtdmnmfnmaccmoaaGreatDoor
/- Values of the program's own struct types, as words: records, entries, deeds, steps, stores. No walk here. -/
namespace Go.Proofs.YtdmnmfnmaccmoaaGreatDoor
open Go Go.RowKit
section
variable {w w' : World} {g B : Nat} {t : TypeId}
theorem Box.c1 {a : Value} (h : Box w g t #[a]) : w.cell? ⟨g, 0, none⟩ = some a := h.cell 0 rfl
theorem Box.c2 {a b : Value} (h : Box w g t #[a, b]) : w.cell? ⟨g, 0, none⟩ = some a ∧ w.cell? ⟨g, 1, none⟩ = some b := ⟨h.cell 0 rfl, h.cell 1 rfl⟩
theorem Box.c3 {a b c : Value} (h : Box w g t #[a, b, c]) : w.cell? ⟨g, 0, none⟩ = some a ∧ w.cell? ⟨g, 1, none⟩ = some b ∧ w.cell? ⟨g, 2, none⟩ = some c := ⟨h.cell 0 rfl, h.cell 1 rfl, h.cell 2 rfl⟩
theorem Box.c4 {a b c d : Value} (h : Box w g t #[a, b, c, d]) : w.cell? ⟨g, 0, none⟩ = some a ∧ w.cell? ⟨g, 1, none⟩ = some b ∧ w.cell? ⟨g, 2, none⟩ = some c ∧ w.cell? ⟨g, 3, none⟩ = some d := ⟨h.cell 0 rfl, h.cell 1 rfl, h.cell 2 rfl, h.cell 3 rfl⟩
theorem Box.c5 {a b c d e : Value} (h : Box w g t #[a, b, c, d, e]) : w.cell? ⟨g, 0, none⟩ = some a ∧ w.cell? ⟨g, 1, none⟩ = some b ∧ w.cell? ⟨g, 2, none⟩ = some c ∧ w.cell? ⟨g, 3, none⟩ = some d ∧ w.cell? ⟨g, 4, none⟩ = some e := ⟨h.cell 0 rfl, h.cell 1 rfl, h.cell 2 rfl, h.cell 3 rfl, h.cell 4 rfl⟩
theorem Box.c6 {a b c d e f : Value} (h : Box w g t #[a, b, c, d, e, f]) : w.cell? ⟨g, 0, none⟩ = some a ∧ w.cell? ⟨g, 1, none⟩ = some b ∧ w.cell? ⟨g, 2, none⟩ = some c ∧ w.cell? ⟨g, 3, none⟩ = some d ∧ w.cell? ⟨g, 4, none⟩ = some e ∧ w.cell? ⟨g, 5, none⟩ = some f := ⟨h.cell 0 rfl, h.cell 1 rfl, h.cell 2 rfl, h.cell 3 rfl, h.cell 4 rfl, h.cell 5 rfl⟩
theorem Box.c8 {a b c d e f i j : Value} (h : Box w g t #[a, b, c, d, e, f, i, j]) : w.cell? ⟨g, 0, none⟩ = some a ∧ w.cell? ⟨g, 1, none⟩ = some b ∧ w.cell? ⟨g, 2, none⟩ = some c ∧ w.cell? ⟨g, 3, none⟩ = some d ∧ w.cell? ⟨g, 4, none⟩ = some e ∧ w.cell? ⟨g, 5, none⟩ = some f ∧ w.cell? ⟨g, 6, none⟩ = some i ∧ w.cell? ⟨g, 7, none⟩ = some j := ⟨h.cell 0 rfl, h.cell 1 rfl, h.cell 2 rfl, h.cell 3 rfl, h.cell 4 rfl, h.cell 5 rfl, h.cell 6 rfl, h.cell 7 rfl⟩
theorem ByT.ext {base : Nat} {v : Value} {l : List UInt8} (h : ByT w base v l) (k : Ext w w') : ByT w' base v l := h.kept (T := []) (.ext k)
theorem By.ext {A : Option Addr} {n c : Nat} {l : List UInt8} (h : By w w.heap.size A n c l) (k : Ext w w') : By w' w'.heap.size A n c l := Sl.more (Sl.below h k) k.size
end
def RecV (w : World) (base : Nat) (v : Value) (r : Rec) : Prop := ∃ u, v = .agg #[.int .i64 r.kind, .int .i64 r.key, .int .i64 r.ver, u] ∧ ByT w base u r.data
def EntV (w : World) (base : Nat) (v : Value) (e : Ent) : Prop := ∃ u, v = .agg #[.int .i64 e.rcd.kind, .int .i64 e.rcd.key, .int .i64 e.rcd.ver, u, .int .i64 e.pair] ∧ ByT w base u e.rcd.data
def DedV (w : World) (base : Nat) (v : Value) (d : Ded) : Prop := ∃ u, v = .agg #[.int .i64 d.kind, .int .i64 d.key, .int .i64 d.n, u] ∧ ByT w base u d.data
def StpV (w : World) (base : Nat) (v : Value) (x : Stp) : Prop := ∃ u, v = .agg #[.int .i64 x.kind, .int .i64 x.n, .int .i64 x.m, .int .i64 x.deed.kind, .int .i64 x.deed.key, .int .i64 x.deed.n, u] ∧ ByT w base u x.deed.data
abbrev tS : List TypeId := [22, 104, 78]
def StoV (T : List TypeId) (w : World) (base : Nat) (v : Value) (s : Sto) : Prop := ∃ bv lv iv, v = .agg #[bv, lv, iv, .int .i64 s.next] ∧ Row eBlk T w base bv s.disk.blocks ∧ Row eWr T w base lv s.disk.late ∧ Row eEnt T w base iv s.index
section
variable {T T' : List TypeId} {w w' w0 : World} {base base' : Nat} {v : Value}
theorem RecV.kept {r : Rec} (h : RecV w base v r) (k : Kept T base w w') : RecV w' base v r := by
 obtain ⟨u, e, h⟩ := h
 exact ⟨u, e, h.kept k⟩
theorem RecV.ext {r : Rec} (h : RecV w base v r) (k : Ext w w') : RecV w' base v r := h.kept (T := []) (.ext k)
theorem RecV.sub {r : Rec} (h : RecV w base v r) (hb : base ≤ base') : RecV w base' v r := by
 obtain ⟨u, e, h⟩ := h
 exact ⟨u, e, h.sub hb⟩
theorem RecV.all {r : Rec} (h : RecV w base v r) : RecV w w.heap.size v r := by
 obtain ⟨u, e, h⟩ := h
 exact ⟨u, e, h.all⟩
theorem RecV.at_ {r : Rec} (h : RecV w base v r) : ∃ A n c, v = .agg #[.int .i64 r.kind, .int .i64 r.key, .int .i64 r.ver, .slice A n c] ∧ By w w.heap.size A n c r.data ∧ ByT w base (.slice A n c) r.data := by
 obtain ⟨u, rfl, h⟩ := h
 obtain ⟨A, n, c, rfl, hb, _⟩ := h.form
 exact ⟨A, n, c, rfl, hb, h⟩
theorem RecV.mk {k y x : Int} {u : Value} {l : List UInt8} (h : ByT w base u l) : RecV w base (.agg #[.int .i64 k, .int .i64 y, .int .i64 x, u]) ⟨k, y, x, l⟩ := ⟨u, rfl, h⟩
theorem RecV.zero (w : World) (base : Nat) : RecV w base (.agg #[.int .i64 0, .int .i64 0, .int .i64 0, .slice none 0 0]) rZero := ⟨_, rfl, ByT.nil _ _⟩
theorem RecV.free (w : World) (base : Nat) : RecV w base (.agg #[.int .i64 1, .int .i64 0, .int .i64 0, .slice none 0 0]) rFree := ⟨_, rfl, ByT.nil _ _⟩
theorem OwnRec.recV {r : Rec} (h : OwnRec w0 w v r) : RecV w base v r := by
 obtain ⟨A, c, rfl, h⟩ := h
 exact ⟨_, rfl, ByT.of_own h⟩
theorem DedV.kept {d : Ded} (h : DedV w base v d) (k : Kept T base w w') : DedV w' base v d := by
 obtain ⟨u, e, h⟩ := h
 exact ⟨u, e, h.kept k⟩
theorem DedV.ext {d : Ded} (h : DedV w base v d) (k : Ext w w') : DedV w' base v d := h.kept (T := []) (.ext k)
theorem DedV.all {d : Ded} (h : DedV w base v d) : DedV w w.heap.size v d := by
 obtain ⟨u, e, h⟩ := h
 exact ⟨u, e, h.all⟩
theorem DedV.at_ {d : Ded} (h : DedV w base v d) : ∃ A n c, v = .agg #[.int .i64 d.kind, .int .i64 d.key, .int .i64 d.n, .slice A n c] ∧ By w w.heap.size A n c d.data ∧ ByT w base (.slice A n c) d.data := by
 obtain ⟨u, rfl, h⟩ := h
 obtain ⟨A, n, c, rfl, hb, _⟩ := h.form
 exact ⟨A, n, c, rfl, hb, h⟩
theorem EntV.kept {e : Ent} (h : EntV w base v e) (k : Kept T base w w') : EntV w' base v e := by
 obtain ⟨u, e, h⟩ := h
 exact ⟨u, e, h.kept k⟩
theorem EntV.ext {e : Ent} (h : EntV w base v e) (k : Ext w w') : EntV w' base v e := h.kept (T := []) (.ext k)
theorem EntV.all {e : Ent} (h : EntV w base v e) : EntV w w.heap.size v e := by
 obtain ⟨u, e, h⟩ := h
 exact ⟨u, e, h.all⟩
theorem EntV.sub {e : Ent} (h : EntV w base v e) (hb : base ≤ base') : EntV w base' v e := by
 obtain ⟨u, e, h⟩ := h
 exact ⟨u, e, h.sub hb⟩
theorem EntV.at_ {e : Ent} (h : EntV w base v e) : ∃ A n c, v = .agg #[.int .i64 e.rcd.kind, .int .i64 e.rcd.key, .int .i64 e.rcd.ver, .slice A n c, .int .i64 e.pair] ∧ By w w.heap.size A n c e.rcd.data ∧ ByT w base (.slice A n c) e.rcd.data := by
 obtain ⟨u, rfl, h⟩ := h
 obtain ⟨A, n, c, rfl, hb, _⟩ := h.form
 exact ⟨A, n, c, rfl, hb, h⟩
theorem EntV.rcd {k y x p : Int} {u : Value} {e : Ent} (h : EntV w base (.agg #[.int .i64 k, .int .i64 y, .int .i64 x, u, .int .i64 p]) e) : RecV w base (.agg #[.int .i64 k, .int .i64 y, .int .i64 x, u]) e.rcd := by
 obtain ⟨u', e', h⟩ := h
 simp only [Value.agg.injEq, Array.mk.injEq, List.cons.injEq, and_true] at e'
 obtain ⟨e0, e1, e2, rfl, e4⟩ := e'
 exact ⟨_, by rw [e0, e1, e2], h⟩
theorem StpV.at_ {x : Stp} (h : StpV w base v x) : ∃ A n c, v = .agg #[.int .i64 x.kind, .int .i64 x.n, .int .i64 x.m, .int .i64 x.deed.kind, .int .i64 x.deed.key, .int .i64 x.deed.n, .slice A n c] ∧ By w w.heap.size A n c x.deed.data ∧ ByT w base (.slice A n c) x.deed.data := by
 obtain ⟨u, rfl, h⟩ := h
 obtain ⟨A, n, c, rfl, hb, _⟩ := h.form
 exact ⟨A, n, c, rfl, hb, h⟩
theorem StpV.kept {x : Stp} (h : StpV w base v x) (k : Kept T base w w') : StpV w' base v x := by
 obtain ⟨u, e, h⟩ := h
 exact ⟨u, e, h.kept k⟩
theorem StpV.ext {x : Stp} (h : StpV w base v x) (k : Ext w w') : StpV w' base v x := h.kept (T := []) (.ext k)
theorem StoV.kept {s : Sto} (h : StoV T w base v s) (k : Kept T base w w') : StoV T w' base v s := by
 obtain ⟨bv, lv, iv, e, h1, h2, h3⟩ := h
 exact ⟨bv, lv, iv, e, h1.kept k, h2.kept k, h3.kept k⟩
theorem StoV.ext {s : Sto} (h : StoV T w base v s) (k : Ext w w') : StoV T w' base v s := h.kept (.ext k)
theorem StoV.sub {s : Sto} (h : StoV T w base v s) (hT : T ⊆ T') (hb : base ≤ base') : StoV T' w base' v s := by
 obtain ⟨bv, lv, iv, e, h1, h2, h3⟩ := h
 exact ⟨bv, lv, iv, e, h1.sub hT hb, h2.sub hT hb, h3.sub hT hb⟩
theorem StoV.all {s : Sto} (h : StoV T w base v s) : StoV T' w w.heap.size v s := by
 obtain ⟨bv, lv, iv, e, h1, h2, h3⟩ := h
 exact ⟨bv, lv, iv, e, h1.all, h2.all, h3.all⟩
theorem StoV.form {s : Sto} (h : StoV T w base v s) : ∃ A n c E m e F k f, v = .agg #[.slice A n c, .slice E m e, .slice F k f, .int .i64 s.next] ∧ DskV T w base (.agg #[.slice A n c, .slice E m e]) s.disk ∧ Row eEnt T w base (.slice F k f) s.index ∧
  Hid (n = s.disk.blocks.length) ∧ Hid (m = s.disk.late.length) ∧ Hid (k = s.index.length) ∧ n ≤ c ∧ m ≤ e ∧ k ≤ f := by
 obtain ⟨bv, lv, iv, rfl, hb, hl, hi⟩ := h
 obtain ⟨A, n, c, rfl, h1, _, h2⟩ := hb.form
 obtain ⟨E, m, e, rfl, h3, _, h4⟩ := hl.form
 obtain ⟨F, k, f, rfl, h5, _, h6⟩ := hi.form
 exact ⟨A, n, c, E, m, e, F, k, f, rfl, ⟨_, _, rfl, hb, hl⟩, hi, h2, h4, h6, h1, h3, h5⟩
end
end Go.Proofs.YtdmnmfnmaccmoaaGreatDoor
/- Walks: model.Do. -/
namespace Go.Proofs.YtdmnmfnmaccmoaaGreatDoor
open Go Go.RowKit
theorem mDo_none {l : List Rec} {d : Ded} (hk : d.kind = 3) (h : ¬ mIdx l d.key d.n < l.length) : mDo l d = (l, 0, 6) := by unfold mDo; rw [if_pos hk, if_neg h]
theorem mDo_take {l : List Rec} {d : Ded} (hk : d.kind = 3) (h : mIdx l d.key d.n < l.length) : mDo l d = (l.eraseIdx (mIdx l d.key d.n), d.n, 0) := by unfold mDo; rw [if_pos hk, if_pos h]
theorem mDo_full {l : List Rec} {d : Ded} (hk : d.kind ≠ 3) (h : 6 ≤ l.length) : mDo l d = (l, 0, 9) := by unfold mDo; rw [if_neg hk, if_pos h]
theorem mDo_much {l : List Rec} {d : Ded} (hk : d.kind ≠ 3) (h : ¬ 6 ≤ l.length) (h' : 60000 < mNext l) : mDo l d = (l, 0, 4) := by unfold mDo; rw [if_neg hk, if_neg h, if_pos h']
theorem mDo_made' {l : List Rec} {d : Ded} (hk : d.kind ≠ 3) (h : ¬ 6 ≤ l.length) (h' : ¬ 60000 < mNext l) : mDo l d = (l ++ [mMade d (mNext l)], mNext l, 0) := by unfold mDo; rw [if_neg hk, if_neg h, if_neg h']
set_option maxRecDepth 100000 in
set_option maxHeartbeats 4000000 in
theorem mDo_v {T : List TypeId} {base n c : Nat} {u : Value} {l : List Rec} {w : World} {k y v : Int} {A : Option Addr} {b : List UInt8} (h : Row eRec T w base u l) (hr : ∀ r ∈ l, rOne r = true) (hl : l.length ≤ 4096) (hbase : base ≤ w.heap.size)
  (hd : By w w.heap.size A n c b) (hn : n ≤ blim) (hk : k = 1 ∨ k = 2 ∨ k = 3) :
  Calls Tryz.prog 38 #[u, .agg #[.int .i64 k, .int .i64 y, .int .i64 v, .slice A n c]] w fun e w' => ∃ x m q, e = .returned (.tuple #[x, .int .i64 m, .int .i64 q]) ∧ Hid (m = (mDo l ⟨k, y, v, b⟩).2.1) ∧ Hid (q = (mDo l ⟨k, y, v, b⟩).2.2) ∧ OwnRow eRec w' w.heap.size base x (mDo l ⟨k, y, v, b⟩).1 ∧ Ext w w' := by
 obtain ⟨A1, m1, c1, rfl, hc1, hcm1, HM⟩ := h.form
 have eg := enters_of Tryz.func66 (by kernel_rfl) rfl
 unfold maxLen at hcm1
 have Hr := Lib.hid hr
 clear hr
 go_enter Tryz.func38, Tryz.ntmps38
 go_wp2_with fail
 generalize hwn : World.alloc _ (Obj.cells #[.int .i64 k, .int .i64 y, .int .i64 v, .slice A n c] 34) = w0
 have hx := ext_st hwn
 have b3 := box_st hwn
 have hg3 : w.heap.size < w0.heap.size := b3.lt
 clear hwn
 refine (recClone_v (h.ext hx) (Nat.le_trans hbase hx.size) hl).mono ?_
 rintro e1 w1 ⟨x1, rfl, o1, he⟩
 have hz : w0.heap.size ≤ w1.heap.size := he.size
 have hx := ext_trans hx he
 have b3 := b3.ext he
 clear he
 have hbB : base ≤ w0.heap.size := Nat.le_trans hbase (Nat.le_of_lt hg3)
 generalize w0.heap.size = B at hg3 o1 hz hbB
 have F1 : Row eRec T w1 base (.slice A1 m1 c1) l := h.ext hx
 have hk' : (k = 1 ∨ k = 2) ∨ k = 3 := by omega
 clear hk
 rcases hk' with hk | rfl
 ·have hk3 : k ≠ 3 := by omega
  have q3 : (k == 3) = false := by simpa using hk3
  have HK := Lib.hid hk
  clear hk
  obtain ⟨b3_0, b3_1, b3_2, b3_3⟩ := b3.c4
  have b3_z := b3.free
  have b3_l := b3.lt
  go_wp2_with fail
  refine (mNext_v F1 Hr.out).mono ?_
  rintro e2 w2 ⟨rfl, he⟩
  try clear b3_0 b3_1 b3_2 b3_3 b3_z b3_l
  have hz := Nat.le_trans hz he.size
  have hx := ext_trans hx he
  have b3 := b3.ext he
  have o1 := o1.ext he
  clear he
  obtain ⟨A2, n2, c2, rfl, _, _, HN2⟩ := o1.form
  by_cases h6 : 6 ≤ l.length
  ·have HD := Lib.hid (mDo_full (d := ⟨k, y, v, b⟩) hk3 h6)
   have q1 : 6 ≤ m1 := by have := HM.out; omega
   clear h6 hk3
   go_wp2_with fail
   go_ret3
   exact ⟨_, _, _, rfl, Lib.hid (by rw [HD.out]), Lib.hid (by rw [HD.out]), by rw [HD.out]; exact o1.more (Nat.le_of_lt hg3) (Nat.le_refl _), hx⟩
  ·have q1 : ¬ 6 ≤ m1 := by have := HM.out; omega
   by_cases h7 : 60000 < mNext l
   ·have HD := Lib.hid (mDo_much (d := ⟨k, y, v, b⟩) hk3 h6 h7)
    have q2 : decide (60000 < mNext l) = true := by simpa using h7
    clear h6 hk3 h7
    go_wp2_with fail
    go_ret3
    exact ⟨_, _, _, rfl, Lib.hid (by rw [HD.out]), Lib.hid (by rw [HD.out]), by rw [HD.out]; exact o1.more (Nat.le_of_lt hg3) (Nat.le_refl _), hx⟩
   ·have HD := Lib.hid (mDo_made' (d := ⟨k, y, v, b⟩) hk3 h6 h7)
    have q2 : decide (60000 < mNext l) = false := by simpa using h7
    have hlm : l.length + 1 ≤ lim := by rw [lim_def]; omega
    clear h6 hk3 h7
    have hx2 := fun o => (ext_trans hx (ext_alloc w2 o))
    obtain ⟨b3_0, b3_1, b3_2, b3_3⟩ := b3.c4
    have b3_z := b3.free
    have b3_l := b3.lt
    go_wp2_with fail
    refine (mMade_w _ (hd.ext hx) (Nat.le_refl _) hn HK.out).mono ?_
    rintro e3 w3 ⟨r3, rfl, own3, he⟩
    try clear b3_0 b3_1 b3_2 b3_3 b3_z b3_l
    have hz := Nat.le_trans hz he.size
    have hx := ext_trans hx he
    have b3 := b3.ext he
    have o1 := o1.ext he
    clear he hx2
    obtain ⟨u3, rfl, hu3⟩ := (own3.recV (base := base))
    have hx2 := fun o => (ext_trans hx (ext_alloc w3 o))
    go_wp2_with (at_builtin; (refine wpl_rec rfl (.tmp 39) (.tmp 43) rfl rfl (o1.ext (ext_alloc _ _)) rfl (Sl.new _ _ _ _ 4 1 rfl (by unfold maxLen; omega) (Nat.lt_succ_self _)) (y := mMade ⟨k, y, v, b⟩ (mNext l)) ⟨_, rfl, hu3.ext (ext_alloc _ _)⟩ hlm (by rw [size_alloc]; omega) (by omega) ?_; intro v4 w4 own4 hg4 hb4))
    have hx := (hx2 _).trans (hb4.mono (Nat.le_of_lt hg3))
    go_ret3
    exact ⟨_, _, _, rfl, Lib.hid (by rw [HD.out]), Lib.hid (by rw [HD.out]), by rw [HD.out]; exact own4.more (Nat.le_of_lt hg3) (Nat.le_refl _), hx⟩
 ·obtain ⟨b3_0, b3_1, b3_2, b3_3⟩ := b3.c4
  have b3_z := b3.free
  have b3_l := b3.lt
  go_wp2_with fail
  refine (recIndex_v eg F1 (doHit_asks b3)).mono ?_
  rintro e2 w2 ⟨z, rfl, hzi, he⟩
  try clear b3_0 b3_1 b3_2 b3_3 b3_z b3_l
  have hz := Nat.le_trans hz he.size
  have hx := ext_trans hx he
  have b3 := b3.ext he
  have o1 := o1.ext he
  clear he
  by_cases hf : mIdx l y v < l.length
  ·obtain ⟨i, hi⟩ : ∃ i, i = mIdx l y v := ⟨_, rfl⟩
   have ez : z = (i : Int) := by rw [hzi.out, hi]; unfold idxInt mIdx; exact if_pos hf
   subst ez
   have HD := Lib.hid (mDo_take (l := l) (d := ⟨3, y, v, b⟩) rfl hf)
   have hil : i < l.length := by rw [hi]; exact hf
   simp only [← hi] at HD
   obtain ⟨A2, n2, c2, rfl, _, _, HN2⟩ := o1.form
   have hin : i < n2 := by have := HN2.out; omega
   have hi5 : i < 5000 := by omega
   clear hf hi hzi hil
   have q0 : decide ((i : Int) < 0) = false := by rw [decide_eq_false_iff_not]; omega
   go_upto_region 6 with (fail)
   have hx := hx.drew
   have b3 := b3.drew
   have o1 := o1.ext ((Below.refl _ _).drew)
   refine wp_region_below B 10 [0, 1, 2, 3, 5, 6, 7, 8, 9] false rfl (by kernel_rfl) (by kernel_rfl) ?_
   generalize w2.drew = D at hx b3 o1 ⊢
   apply mixF 0 (by kernel_rfl) (by rfl) (by rfl)
   ·(intro w' hx; obtain ⟨x0, x1, x2, x3⟩ := (b3.below hx hg3).c4; go_simp <;> with_reducible rfl)
   simp only [pA, pB, pC, pD]
   apply mixF 1 (by kernel_rfl) (by rfl) (by rfl)
   ·(intro w' hx; obtain ⟨x0, x1, x2, x3⟩ := (b3.below hx hg3).c4; go_simp <;> with_reducible rfl)
   simp only [pA, pB, pC, pD]
   apply mixF 2 (by kernel_rfl) (by rfl) (by rfl)
   ·(intro w' hx; obtain ⟨x0, x1, x2, x3⟩ := (b3.below hx hg3).c4; go_simp <;> with_reducible rfl)
   simp only [pA, pB, pC, pD]
   apply mixF 3 (by kernel_rfl) (by rfl) (by rfl)
   ·(intro w' hx; obtain ⟨x0, x1, x2, x3⟩ := (b3.below hx hg3).c4; go_simp <;> with_reducible rfl)
   simp only [pA, pB, pC, pD]
   apply mixF 5 (by kernel_rfl) (by rfl) (by rfl)
   ·(intro w' hx; obtain ⟨x0, x1, x2, x3⟩ := (b3.below hx hg3).c4; go_simp <;> with_reducible rfl)
   simp only [pA, pB, pC, pD]
   apply mixF 6 (by kernel_rfl) (by rfl) (by rfl)
   ·(intro w' hx; obtain ⟨x0, x1, x2, x3⟩ := (b3.below hx hg3).c4; go_simp <;> with_reducible rfl)
   simp only [pA, pB, pC, pD]
   refine mixS 4 (by kernel_rfl) (by kernel_rfl) (by rfl) (by rfl) (fun K hK => ?_)
   go_wp2_with (go_at_call 67; refine (recDelete_v o1 hin hbB).mono ?_; rintro e w4 ⟨v4, rfl, o4, hb4⟩)
   refine hK.out _ _ (hb4) ?_
   clear hK K
   try simp only [pA, pB, pC, pD]
   have hx := hx.trans (hb4.mono (Nat.le_of_lt hg3))
   apply mixF 7 (by kernel_rfl) (by rfl) (by rfl)
   ·(intro w' hx; go_simp <;> with_reducible rfl)
   simp only [pA, pB, pC, pD]
   apply mixF 8 (by kernel_rfl) (by rfl) (by rfl)
   ·(intro w' hx; go_simp <;> with_reducible rfl)
   simp only [pA, pB, pC, pD]
   apply mixF 9 (by kernel_rfl) (by rfl) (by rfl)
   ·(intro w' hx; go_simp <;> with_reducible rfl)
   simp only [pA, pB, pC, pD]
   refine mixEnd (by kernel_rfl) ?_
   go_wp2_with fail
   go_ret3
   exact ⟨_, _, _, rfl, Lib.hid (by rw [HD.out]), Lib.hid (by rw [HD.out]), by rw [HD.out]; exact o4.more (Nat.le_of_lt hg3) (Nat.le_refl _), hx⟩
  ·have HD := Lib.hid (mDo_none (l := l) (d := ⟨3, y, v, b⟩) rfl hf)
   have ez : z = -1 := by rw [hzi.out]; unfold idxInt; exact if_neg hf
   subst ez
   clear hf hzi
   go_wp2_with fail
   go_ret3
   exact ⟨_, _, _, rfl, Lib.hid (by rw [HD.out]), Lib.hid (by rw [HD.out]), by rw [HD.out]; exact o1.more (Nat.le_of_lt hg3) (Nat.le_refl _), hx⟩
end Go.Proofs.YtdmnmfnmaccmoaaGreatDoor
/- Walks: the document's Do. -/
namespace Go.Proofs.YtdmnmfnmaccmoaaGreatDoor
open Go Go.RowKit
section
variable {α : Type} {E : El α} {T : List TypeId} {w : World} {base n c k : Nat} {A : Option Addr} {xs : List α}
theorem Row.take_ (h : Row E T w base (.slice A n c) xs) (hk : k ≤ n) : Row E T w base (.slice A k c) (xs.take k) := by
 obtain ⟨A', c', css, e, hc, hs, hf⟩ := h
 injection e with e1 e2 e3
 subst e1 e2 e3
 have hl : (xs.take k).length = k := by rw [List.length_take]; omega
 refine ⟨A, c, css.take k, by rw [hl], hc.take k, ?_, fun h0 => ?_⟩
 ·rw [hl, flat_take css k hc.each]
  exact hs.take hk
 ·rw [hl] at h0
  exact hf (by omega)
theorem Row.drop_ (h : Row E T w base (.slice A n c) xs) (hk : k ≤ n) : Row E T w base (.slice (if c = k then A else A.map (·.add (k * E.size))) (n - k) (c - k)) (xs.drop k) := by
 obtain ⟨A', c', css, e, hc, hs, hf⟩ := h
 injection e with e1 e2 e3
 subst e1 e2 e3
 have hl : (xs.drop k).length = xs.length - k := List.length_drop
 refine ⟨_, _, css.drop k, by rw [hl], hc.drop k, ?_, fun h0 => ?_⟩
 ·rw [hl, flat_drop css k hc.each]
  exact hs.cut hk
 ·rw [hl] at h0
  intro ad e
  split at e
  ·exact hf (by omega) ad e
  ·obtain ⟨a, ha, rfl⟩ := Option.map_eq_some_iff.1 e
   rw [block_of_add]
   exact hf (by omega) a ha
end
end Go.Proofs.YtdmnmfnmaccmoaaGreatDoor
/- Walks: the document's SameRecords. -/
namespace Go.Proofs.YtdmnmfnmaccmoaaGreatDoor
open Go Go.RowKit
end Go.Proofs.YtdmnmfnmaccmoaaGreatDoor
/- Walks: model.Wrong and the document's WrongDeed. -/
namespace Go.Proofs.YtdmnmfnmaccmoaaGreatDoor
open Go Go.RowKit
set_option maxRecDepth 100000 in
set_option maxHeartbeats 4000000 in
theorem mWrong_w {A : Option Addr} {n c B : Nat} {k y v : Int} {b : List UInt8} (w : World) (h : By w B A n c b) :
  Calls Tryz.prog 36 #[.agg #[.int .i64 k, .int .i64 y, .int .i64 v, .slice A n c]] w fun e w' => e = .returned (.int .i64 (mWrong ⟨k, y, v, b⟩)) ∧ Ext w w' := by
 have hl := h.len
 have e0 : mWrong ⟨k, y, v, b⟩ = if k < 1 ∨ 3 < k then 1 else if (y < 1 ∨ 255 < y) ∨ (k = 3 ∧ (v < 1 ∨ 60000 < v)) ∨ (k ≠ 3 ∧ v ≠ 0) then 3 else if 8 < n ∨ k ≠ 1 ∧ 0 < n then 4 else 0 := by
  unfold mWrong
  simp only [hl]
 have H : ∀ z, (if k < 1 ∨ 3 < k then (1 : Int) else if (y < 1 ∨ 255 < y) ∨ (k = 3 ∧ (v < 1 ∨ 60000 < v)) ∨ (k ≠ 3 ∧ v ≠ 0) then 3 else if 8 < n ∨ k ≠ 1 ∧ 0 < n then 4 else 0) = z → Hid (mWrong ⟨k, y, v, b⟩ = z) := fun _ h => e0.trans h
 clear hl e0
 by_cases k1 : k < 1
 ·have HW := H 1 (by rw [if_pos (.inl k1)])
  have q1 : decide (k < 1) = true := by simpa using k1
  clear H k1
  go_enter Tryz.func36, Tryz.ntmps36
  go_wp2_with fail
  go_ret
  exact ⟨by rw [HW.out]; rfl, ext_alloc _ _⟩
 have K1 : decide (k < 1) = false := by simpa using k1
 by_cases k2 : 3 < k
 ·have HW := H 1 (by rw [if_pos (.inr k2)])
  have q1 : decide (3 < k) = true := by simpa using k2
  clear H k1 k2
  go_enter Tryz.func36, Tryz.ntmps36
  go_wp2_with fail
  go_ret
  exact ⟨by rw [HW.out]; rfl, ext_alloc _ _⟩
 have K2 : decide (3 < k) = false := by simpa using k2
 have kk : ¬ (k < 1 ∨ 3 < k) := by omega
 by_cases y1 : y < 1
 ·have HW := H 3 (by rw [if_neg kk, if_pos (.inl (.inl y1))])
  have q1 : decide (y < 1) = true := by simpa using y1
  clear H k1 k2 kk y1
  by_cases k3 : k = 3
  ·subst k3
   clear K1 K2
   go_enter Tryz.func36, Tryz.ntmps36
   go_wp2_with fail
   go_ret
   exact ⟨by rw [HW.out]; rfl, ext_alloc _ _⟩
  ·have q3 : (k == 3) = false := by simpa using k3
   have q4 : (k != 3) = true := by simpa using k3
   clear k3
   go_enter Tryz.func36, Tryz.ntmps36
   go_wp2_with fail
   go_ret
   exact ⟨by rw [HW.out]; rfl, ext_alloc _ _⟩
 have Y1 : decide (y < 1) = false := by simpa using y1
 by_cases y2 : 255 < y
 ·have HW := H 3 (by rw [if_neg kk, if_pos (.inl (.inr y2))])
  have q1 : decide (255 < y) = true := by simpa using y2
  clear H k1 k2 kk y1 y2
  by_cases k3 : k = 3
  ·subst k3
   clear K1 K2
   go_enter Tryz.func36, Tryz.ntmps36
   go_wp2_with fail
   go_ret
   exact ⟨by rw [HW.out]; rfl, ext_alloc _ _⟩
  ·have q3 : (k == 3) = false := by simpa using k3
   have q4 : (k != 3) = true := by simpa using k3
   clear k3
   go_enter Tryz.func36, Tryz.ntmps36
   go_wp2_with fail
   go_ret
   exact ⟨by rw [HW.out]; rfl, ext_alloc _ _⟩
 have Y2 : decide (255 < y) = false := by simpa using y2
 have N3 : n = 0 ∨ decide ((8 : Int) < (n : Int)) = true ∧ 0 < n ∧ 8 < n ∨ decide ((8 : Int) < (n : Int)) = false ∧ decide ((0 : Int) < (n : Int)) = true ∧ ((n : Int) != 0) = true ∧ 0 < n ∧ ¬ 8 < n := by
  simp only [decide_eq_true_eq, decide_eq_false_iff_not, bne_iff_ne]
  omega
 by_cases k3 : k = 3
 ·subst k3
  clear K1 K2 k1 k2 kk
  by_cases v1 : v < 1
  ·have HW := H 3 (by rw [if_neg (by omega), if_pos (.inr (.inl ⟨rfl, .inl v1⟩))])
   have q1 : decide (v < 1) = true := by simpa using v1
   clear H y1 y2 v1 N3
   go_enter Tryz.func36, Tryz.ntmps36
   go_wp2_with fail
   go_ret
   exact ⟨by rw [HW.out]; rfl, ext_alloc _ _⟩
  have V1 : decide (v < 1) = false := by simpa using v1
  by_cases v2 : 60000 < v
  ·have HW := H 3 (by rw [if_neg (by omega), if_pos (.inr (.inl ⟨rfl, .inr v2⟩))])
   have q1 : decide (60000 < v) = true := by simpa using v2
   clear H y1 y2 v1 v2 N3
   go_enter Tryz.func36, Tryz.ntmps36
   go_wp2_with fail
   go_ret
   exact ⟨by rw [HW.out]; rfl, ext_alloc _ _⟩
  have V2 : decide (60000 < v) = false := by simpa using v2
  rcases N3 with n0 | ⟨n1, n2, n3⟩ | ⟨n1, n2, n3, n4, n5⟩
  ·subst n0
   have HW := H 0 (by rw [if_neg (by omega), if_neg (by omega), if_neg (by omega)])
   clear H y1 y2 v1 v2
   go_enter Tryz.func36, Tryz.ntmps36
   go_wp2_with fail
   go_ret
   exact ⟨by rw [HW.out]; rfl, ext_alloc _ _⟩
  ·have HW := H 4 (by rw [if_neg (by omega), if_neg (by omega), if_pos (.inl n3)])
   clear H y1 y2 v1 v2 n3
   go_enter Tryz.func36, Tryz.ntmps36
   go_wp2_with fail
   go_ret
   exact ⟨by rw [HW.out]; rfl, ext_alloc _ _⟩
  ·have HW := H 4 (by rw [if_neg (by omega), if_neg (by omega), if_pos (.inr ⟨by omega, n4⟩)])
   clear H y1 y2 v1 v2 n5
   go_enter Tryz.func36, Tryz.ntmps36
   go_wp2_with fail
   go_ret
   exact ⟨by rw [HW.out]; rfl, ext_alloc _ _⟩
 ·have q3 : (k == 3) = false := by simpa using k3
  have q4 : (k != 3) = true := by simpa using k3
  by_cases v1 : v = 0
  ·subst v1
   rcases N3 with n0 | ⟨n1, n2, n3⟩ | ⟨n1, n2, n3, n4, n5⟩
   ·subst n0
    have HW := H 0 (by rw [if_neg kk, if_neg (by omega), if_neg (by omega)])
    have hk : (k != 1) = true ∨ (k != 1) = false := by cases (k != 1) <;> simp
    clear H y1 y2 k1 k2 kk k3
    rcases hk with hk | hk
    ·skip
     go_enter Tryz.func36, Tryz.ntmps36
     go_wp2_with fail
     go_ret
     exact ⟨by rw [HW.out]; rfl, ext_alloc _ _⟩
    ·skip
     go_enter Tryz.func36, Tryz.ntmps36
     go_wp2_with fail
     go_ret
     exact ⟨by rw [HW.out]; rfl, ext_alloc _ _⟩
   ·have HW := H 4 (by rw [if_neg kk, if_neg (by omega), if_pos (.inl n3)])
    clear H y1 y2 k1 k2 kk k3 n3
    go_enter Tryz.func36, Tryz.ntmps36
    go_wp2_with fail
    go_ret
    exact ⟨by rw [HW.out]; rfl, ext_alloc _ _⟩
   ·by_cases k4 : k = 1
    ·subst k4
     have HW := H 0 (by rw [if_neg kk, if_neg (by omega), if_neg (by omega)])
     clear H y1 y2 k1 k2 kk k3 K1 K2 q3 q4 n5
     go_enter Tryz.func36, Tryz.ntmps36
     go_wp2_with fail
     go_ret
     exact ⟨by rw [HW.out]; rfl, ext_alloc _ _⟩
    ·have HW := H 4 (by rw [if_neg kk, if_neg (by omega), if_pos (.inr ⟨k4, n4⟩)])
     have q5 : (k != 1) = true := by simpa using k4
     clear H y1 y2 k1 k2 kk k3 k4 n5
     go_enter Tryz.func36, Tryz.ntmps36
     go_wp2_with fail
     go_ret
     exact ⟨by rw [HW.out]; rfl, ext_alloc _ _⟩
  ·have HW := H 3 (by rw [if_neg kk, if_pos (.inr (.inr ⟨k3, v1⟩))])
   have q5 : (v != 0) = true := by simpa using v1
   have hv : decide (v < 0) = true ∨ decide (v < 0) = false ∧ decide (0 < v) = true := by
    simp only [decide_eq_true_eq, decide_eq_false_iff_not]
    omega
   clear H y1 y2 k1 k2 kk k3 v1 N3
   rcases hv with hv | ⟨hv, hv'⟩
   ·skip
    go_enter Tryz.func36, Tryz.ntmps36
    go_wp2_with fail
    go_ret
    exact ⟨by rw [HW.out]; rfl, ext_alloc _ _⟩
   ·skip
    go_enter Tryz.func36, Tryz.ntmps36
    go_wp2_with fail
    go_ret
    exact ⟨by rw [HW.out]; rfl, ext_alloc _ _⟩
end Go.Proofs.YtdmnmfnmaccmoaaGreatDoor
/- Contracts over values: deeds and records. Rows' cells behind new blocks. -/
namespace Go.Proofs.YtdmnmfnmaccmoaaGreatDoor
open Go Go.RowKit
section
variable {T : List TypeId} {w : World} {base n c : Nat} {A : Option Addr}
theorem Row.rec_x {l : List Rec} (h : Row eRec T w base (.slice A n c) l) {i : Nat} (hi : i < n) :
  ∃ b o u, A = some ⟨b, o, none⟩ ∧ b < w.heap.size ∧ ByT w base u (l.getD i rZero).data ∧ ∀ w', Ext w w' → w'.cell? ⟨b, o + i * 4, none⟩ = some (.int .i64 (l.getD i rZero).kind) ∧ w'.cell? ⟨b, o + i * 4 + 1, none⟩ = some (.int .i64 (l.getD i rZero).key) ∧
   w'.cell? ⟨b, o + i * 4 + 2, none⟩ = some (.int .i64 (l.getD i rZero).ver) ∧ w'.cell? ⟨b, o + i * 4 + 3, none⟩ = some u := by
 obtain ⟨b, o, u, e, hb, c0, c1, c2, c3, hu⟩ := h.rec_at hi
 exact ⟨b, o, u, e, hb, hu, fun w' hx => ⟨(hx.cell (p := ⟨b, _, none⟩) hb).trans c0, (hx.cell (p := ⟨b, _, none⟩) hb).trans c1, (hx.cell (p := ⟨b, _, none⟩) hb).trans c2, (hx.cell (p := ⟨b, _, none⟩) hb).trans c3⟩⟩
theorem Row.ent_x {l : List Ent} (h : Row eEnt T w base (.slice A n c) l) {i : Nat} (hi : i < n) :
  ∃ b o u, A = some ⟨b, o, none⟩ ∧ b < w.heap.size ∧ ByT w base u (l.getD i ⟨rZero, 0⟩).rcd.data ∧ ∀ w', Ext w w' → w'.cell? ⟨b, o + i * 5, none⟩ = some (.int .i64 (l.getD i ⟨rZero, 0⟩).rcd.kind) ∧ w'.cell? ⟨b, o + i * 5 + 1, none⟩ = some (.int .i64 (l.getD i ⟨rZero, 0⟩).rcd.key) ∧
   w'.cell? ⟨b, o + i * 5 + 2, none⟩ = some (.int .i64 (l.getD i ⟨rZero, 0⟩).rcd.ver) ∧ w'.cell? ⟨b, o + i * 5 + 3, none⟩ = some u ∧ w'.cell? ⟨b, o + i * 5 + 4, none⟩ = some (.int .i64 (l.getD i ⟨rZero, 0⟩).pair) := by
 obtain ⟨b, o, u, e, hb, c0, c1, c2, c3, c4, hu⟩ := h.ent_at hi
 exact ⟨b, o, u, e, hb, hu, fun w' hx => ⟨(hx.cell (p := ⟨b, _, none⟩) hb).trans c0, (hx.cell (p := ⟨b, _, none⟩) hb).trans c1, (hx.cell (p := ⟨b, _, none⟩) hb).trans c2, (hx.cell (p := ⟨b, _, none⟩) hb).trans c3, (hx.cell (p := ⟨b, _, none⟩) hb).trans c4⟩⟩
end
section
variable {w : World} {base base' : Nat} {v v' dv : Value} {r s : Rec} {d : Ded}
theorem recSame_v (h : RecV w base v r) (h' : RecV w base' v' s) : Calls Tryz.prog 58 #[v, v'] w fun e w' => e = .returned (.bool (rSame r s)) ∧ Ext w w' := by
 obtain ⟨A, n, c, rfl, h1, _⟩ := h.at_
 obtain ⟨A', n', c', rfl, h2, _⟩ := h'.at_
 exact same_w w h1 h2 (Nat.le_refl _) (Nat.le_refl _)
theorem recOwn_v (h : RecV w base v r) (hl : r.data.length ≤ 4096) : Calls Tryz.prog 52 #[v] w fun e w' => ∃ v', e = .returned v' ∧ RecV w' 0 v' r ∧ Ext w w' := by
 obtain ⟨A, n, c, rfl, h1, _⟩ := h.at_
 exact (own_w w h1 (Nat.le_refl _) (by rw [blim_def]; have := h1.len; omega)).mono fun e w' ⟨v', e, h, he⟩ => ⟨v', e, h.recV, he⟩
theorem mWrong_v (h : DedV w base dv d) : Calls Tryz.prog 36 #[dv] w fun e w' => e = .returned (.int .i64 (mWrong d)) ∧ Ext w w' := by
 obtain ⟨A, n, c, rfl, h1, _⟩ := h.at_
 exact mWrong_w w h1
theorem ded_small (h : mWrong d = 0) {A : Option Addr} {n c B : Nat} (h1 : By w B A n c d.data) : n ≤ blim := by
 have := h1.len
 have := (mWrong_zero h).2.2.2.2.2.1
 rw [blim_def]
 omega
theorem mDo_d {T : List TypeId} {u : Value} {l : List Rec} (h : Row eRec T w base u l) (hr : ∀ r ∈ l, rOne r = true) (hl : l.length ≤ 4096) (hbase : base ≤ w.heap.size) (hd : DedV w base' dv d) (hw : mWrong d = 0) :
  Calls Tryz.prog 38 #[u, dv] w fun e w' => ∃ x m q, e = .returned (.tuple #[x, .int .i64 m, .int .i64 q]) ∧ Hid (m = (mDo l d).2.1) ∧ Hid (q = (mDo l d).2.2) ∧ OwnRow eRec w' w.heap.size base x (mDo l d).1 ∧ Ext w w' := by
 obtain ⟨A, n, c, rfl, h1, _⟩ := hd.at_
 exact mDo_v h hr hl hbase h1 (ded_small hw h1) (mWrong_zero hw).1
theorem mMade_d {x : Int} (hd : DedV w base dv d) (hw : mWrong d = 0) (hk : d.kind ≠ 3) :
  Calls Tryz.prog 43 #[dv, .int .i64 x] w fun e w' => ∃ r, e = .returned r ∧ RecV w' 0 r (mMade d x) ∧ Ext w w' := by
 obtain ⟨A, n, c, rfl, h1, _⟩ := hd.at_
 exact (mMade_w w h1 (Nat.le_refl _) (ded_small hw h1) (by have := (mWrong_zero hw).1; omega)).mono fun e w' ⟨v', e, h, he⟩ => ⟨v', e, h.recV, he⟩
end
end Go.Proofs.YtdmnmfnmaccmoaaGreatDoor
/- An argument's reading, opened: rows of records, deeds. -/
namespace Go.Proofs.YtdmnmfnmaccmoaaGreatDoor
open Go Go.RowKit Go.ChangeShapes Go.WideShapes Go.ChangeAt
section
variable {H : Type} {enc : TypeId × Value → H} {w : World} {base : Nat} {spare : Nat → Bool} {held : Bool}
theorem in_recR (n : Nat) (cs : List Value) (y : DataW H × List MemPlace) (h : DataW.trod enc Tryz.prog w base spare held n eRec.ty cs = some y) (hf : Fits Tryz.prog eRec.ty y.1) : ∃ x, eRec.R (ByT w w.heap.size) cs x ∧ x.data.length + 4096 ≤ blim := by
 obtain ⟨A, n, c, r, rfl, hb⟩ := in_rec h hf
 exact ⟨r, ⟨_, rfl, ByT.of_by hb.at_ (Nat.le_refl _) (Nat.le_refl _)⟩, by have := hb.at_.len; have := hb.small; omega⟩
theorem in_recs {T : List TypeId} {fuel : Nat} {cs : List Value} {x : DataW H × List MemPlace} (h : DataW.trod enc Tryz.prog w base spare held fuel 46 cs = some x) (hf : Fits Tryz.prog 46 x.1) :
  ∃ v xs, cs = [v] ∧ Row eRec T w w.heap.size v xs ∧ ∀ y ∈ xs, y.data.length + 4096 ≤ blim :=
 in_row eRec Tryz.underlying46 (by kernel_rfl) _ in_recR h hf
theorem cells_deed : Tryz.prog.cellsOf 34 = 4 := by kernel_rfl
theorem in_deed {fuel : Nat} {cs : List Value} {x : DataW H × List MemPlace} (h : DataW.trod enc Tryz.prog w base spare held fuel 34 cs = some x) (hf : Fits Tryz.prog 34 x.1) :
  ∃ a b c e d, cs = [a, b, c, e] ∧ DedV w w.heap.size (.agg #[a, b, c, e]) d ∧ d.data.length + 4096 ≤ blim := by
 obtain ⟨xs, m, _, rfl, hl, hlen, ht⟩ := DataW.trod_struct Tryz.underlying34 h
 have h0 := ht 0 _ rfl
 have h1 := ht 1 _ rfl
 have h2 := ht 2 _ rfl
 have h3 := ht 3 _ rfl
 rw [cells_deed] at hl
 obtain ⟨y0, y1, y2, y3, rfl⟩ := len4 xs hlen
 obtain ⟨a, b, c, d, rfl⟩ := len4 cs hl
 simp only [List.getElem_toArray, List.getElem_cons_zero, List.getElem_cons_succ, cells_int, cells_bytes, List.drop_zero, List.drop_succ_cons, List.take_succ_cons, List.take_zero, List.getElem?_cons_zero, List.getElem?_cons_succ] at h0 h1 h2 h3
 obtain ⟨k, ek, hk⟩ := in_int h0
 obtain ⟨e, ee, he⟩ := in_int h1
 obtain ⟨v, ev, hv⟩ := in_int h2
 obtain ⟨A, n, cp, l, es, hb, hz⟩ := in_by h3 (fits_field hf Tryz.underlying34 3 rfl rfl)
 simp only [List.cons.injEq, and_true] at ek ee ev es
 subst ek ee ev es
 exact ⟨_, _, _, _, ⟨k, e, v, l⟩, rfl, ⟨_, rfl, ByT.of_by hb (Nat.le_refl _) (Nat.le_refl _)⟩, by have := hb.len; simp only; omega⟩
end
end Go.Proofs.YtdmnmfnmaccmoaaGreatDoor
