/- Walks of chapter 7: the document's text of a deed. -/
import Derived.Test.YtdmnmfnmaccmoaaDoorTx5
import Derived.Test.YtdmnmfnmaccmoaaDoorG1
namespace Go.Proofs.YtdmnmfnmaccmoaaDoor
open Go Go.RowKit
theorem encode_low (c : UInt8) (h : c.toNat < 128) : Utf8.encode (c.toNat : Int) = ⟨#[c]⟩ := by
 have hv : Utf8.valid (c.toNat : Int) = true := by
  unfold Utf8.valid
  simp
  omega
 have e : (c.toNat : Int).toNat = c.toNat := by omega
 unfold Utf8.encode
 simp only [hv, if_true, e, h]
 simp
theorem hdig_low : ∀ i : Fin 16, (hdig i.val).toNat < 128 := by decide +kernel
theorem encode_hdig {i : Nat} (h : i < 16) : Utf8.encode ((hdig i).toNat : Int) = ⟨#[hdig i]⟩ := encode_low _ (hdig_low ⟨i, h⟩)
def kWord (k : Int) : ByteArray := if k = 1 then ⟨#[112, 117, 116]⟩ else if k = 2 then ⟨#[100, 101, 108, 101, 116, 101]⟩ else ⟨#[112, 117, 114, 103, 101]⟩
theorem sizes (a : Array UInt8) : (ByteArray.mk a).size = a.size := rfl
set_option maxHeartbeats 4000000 in
set_option maxRecDepth 100000 in
theorem rPrint_v {base : Nat} {dv : Value} {d : Ded} {w : World} (h : DedV w base dv d) (hd : mWrong d = 0) (hV : VarT w) :
  Calls Tryd.prog 11 #[dv] w fun e w' => e = .returned (.string ⟨(tPrint d).toArray⟩) ∧ Ext w w' := by
 obtain ⟨hk, k0, k1, hn, hn0, hl, hdd⟩ := mWrong_zero hd
 obtain ⟨u, rfl, hb⟩ := h
 obtain ⟨dk, dy, dn, db⟩ := d
 simp only at hk k0 k1 hn hn0 hl hdd hb
 obtain ⟨r, hr0⟩ : ∃ r : ByteArray, r = ⟨(Lib.itoa dy).toArray⟩ := ⟨_, rfl⟩
 have Hr : Hid (r.data.toList = Lib.itoa dy) := by rw [hr0]; exact Lib.hid (by simp)
 have hr : r.size ≤ 21 := by rw [hr0, sizeOf_]; exact Lib.itoa_length_le dy (by omega) (by omega)
 have hI : ∀ w, VarT w → Calls Tryd.prog 20 #[.int .i64 dy] w fun e w' => e = .returned (.string r) ∧ Ext w w' := fun w h => by rw [hr0]; exact itoa_v (by omega) (by omega) h
 have Hn := Lib.hid hn
 have Hd := Lib.hid hdd
 have q4 : ¬ (9223372036854775807 < 4 + r.size) := by omega
 have q6 : ¬ (9223372036854775807 < 6 + r.size) := by omega
 have q7 : ¬ (9223372036854775807 < 7 + r.size) := by omega
 clear hr0 hn hn0 hdd hd
 go_enter Tryd.func11, Tryd.ntmps11
 rcases hk with rfl | rfl | rfl
 ·skip
  go_wp2_with fail
  obtain ⟨W, hW⟩ : ∃ W, W = (w.alloc (.cells #[.int .i64 1, .int .i64 dy, .int .i64 dn, u] 24)) := ⟨_, rfl⟩
  rw [← hW]
  have bx : Box W w.heap.size 24 #[.int .i64 1, .int .i64 dy, .int .i64 dn, u] := by rw [hW]; exact Box.new w _ _ rfl
  have hE : Ext w W := by rw [hW]; exact ext_alloc _ _
  clear hW
  go_cut [3] from 6 to 15 (fun v wr => ∃ x : ByteArray, v = .string x ∧ Hid (x.data.toList = (kWord 1).data.toList ++ 32 :: Lib.itoa dy) ∧ x.size ≤ 40 ∧ Box wr w.heap.size 24 #[.int .i64 1, .int .i64 dy, .int .i64 dn, u] ∧ Ext w wr)
  case first =>
   refine wp_region_ext 11 [1, 2, 3, 4, 5, 6, 7, 9, 10] false rfl (by kernel_rfl) (by kernel_rfl) ?_
   have bx := bx.drew
   have hE : Ext w W.drew := hE.drew
   have hV : VarT W.drew := hV.ext hE
   apply mixF 1 (by kernel_rfl) (by rfl) (by rfl)
   ·(intro w' hx; go_simp <;> with_reducible rfl)
   simp only [pA, pB, pC, pD]
   apply mixF 2 (by kernel_rfl) (by rfl) (by rfl)
   ·(intro w' hx; have q := (bx.ext hx).c4.1; go_simp <;> with_reducible rfl)
   simp only [pA, pB, pC, pD]
   apply mixF 6 (by kernel_rfl) (by rfl) (by rfl)
   ·(intro w' hx; go_simp <;> with_reducible rfl)
   simp only [pA, pB, pC, pD]
   apply mixF 7 (by kernel_rfl) (by rfl) (by rfl)
   ·(intro w' hx; have q := (bx.ext hx).c4.2.1; go_simp <;> with_reducible rfl)
   simp only [pA, pB, pC, pD]
   refine mixS2 0 8 (by kernel_rfl) (by kernel_rfl) (by rfl) (by rfl) (by rfl) (by rfl) (fun K hK => ?_) (fun K hK => ?_)
   ·skip
    go_wp2
    generalize hwn : World.drew (World.alloc W _) = w1
    have he : Ext W.drew w1 := by rw [← hwn]; exact ext_alloc _ _
    have bs : Box w1 W.heap.size 9 #[.string ⟨#[]⟩, .string ⟨#[112, 117, 116]⟩, .string ⟨#[100, 101, 108, 101, 116, 101]⟩, .string ⟨#[112, 117, 114, 103, 101]⟩] := by rw [← hwn]; exact Box.new _ _ _ rfl
    clear hwn
    refine hK.out _ _ he ?_
    clear hK K
    try simp only [pA, pB, pC, pD]
    have hE := ext_trans hE he
    have bx := bx.ext he
    have hV := hV.ext he
    obtain ⟨gs, hgs⟩ : ∃ g, g = W.heap.size := ⟨_, rfl⟩
    rw [← hgs] at bs ⊢
    clear hgs he
    apply mixF 3 (by kernel_rfl) (by rfl) (by rfl)
    ·(intro w' hx; go_simp <;> with_reducible rfl)
    simp only [pA, pB, pC, pD]
    apply mixF 4 (by kernel_rfl) (by rfl) (by rfl)
    ·(intro w' hx; have q := (bs.ext hx).c4; go_simp <;> with_reducible rfl)
    simp only [pA, pB, pC, pD]
    apply mixF 5 (by kernel_rfl) (by rfl) (by rfl)
    ·(intro w' hx; go_simp <;> with_reducible rfl)
    simp only [pA, pB, pC, pD]
    refine mixS 8 (by kernel_rfl) (by kernel_rfl) (by rfl) (by rfl) (fun K hK => ?_)
    go_wp2_with (go_at_call 20; refine (hI _ hV).mono ?_; rintro e w2 ⟨rfl, he⟩)
    refine hK.out _ _ he ?_
    clear hK K
    try simp only [pA, pB, pC, pD]
    have hE := ext_trans hE he
    have bx := bx.ext he
    have hV := hV.ext he
    apply mixF 9 (by kernel_rfl) (by rfl) (by rfl)
    ·(intro w' hx; go_simp <;> with_reducible rfl)
    simp only [pA, pB, pC, pD]
    apply mixF 10 (by kernel_rfl) (by rfl) (by rfl)
    ·(intro w' hx; go_simp <;> with_reducible rfl)
    simp only [pA, pB, pC, pD]
    refine mixEnd (by kernel_rfl) ?_
    go_wp2_with fail
    go_meet
    exact ⟨_, rfl, Lib.hid (by simp [ByteArray.data_append, Hr.out, kWord]), by simp only [ByteArray.size_append, sizes, List.size_toArray, List.length_cons, List.length_nil]; omega, bx, hE⟩
   ·skip
    go_wp2_with (go_at_call 20; refine (hI _ hV).mono ?_; rintro e w1 ⟨rfl, he⟩)
    refine hK.out _ _ he ?_
    clear hK K
    try simp only [pA, pB, pC, pD]
    have hE := ext_trans hE he
    have bx := bx.ext he
    have hV := hV.ext he
    refine mixS 0 (by kernel_rfl) (by kernel_rfl) (by rfl) (by rfl) (fun K hK => ?_)
    go_wp2
    generalize hwn : World.alloc w1 _ = w2
    have he : Ext w1 w2 := by rw [← hwn]; exact ext_alloc _ _
    have bs : Box w2 w1.heap.size 9 #[.string ⟨#[]⟩, .string ⟨#[112, 117, 116]⟩, .string ⟨#[100, 101, 108, 101, 116, 101]⟩, .string ⟨#[112, 117, 114, 103, 101]⟩] := by rw [← hwn]; exact Box.new _ _ _ rfl
    clear hwn
    refine hK.out _ _ he ?_
    clear hK K
    try simp only [pA, pB, pC, pD]
    have hE := ext_trans hE he
    have bx := bx.ext he
    have hV := hV.ext he
    obtain ⟨gs, hgs⟩ : ∃ g, g = w1.heap.size := ⟨_, rfl⟩
    rw [← hgs] at bs ⊢
    clear hgs he
    apply mixF 3 (by kernel_rfl) (by rfl) (by rfl)
    ·(intro w' hx; go_simp <;> with_reducible rfl)
    simp only [pA, pB, pC, pD]
    apply mixF 4 (by kernel_rfl) (by rfl) (by rfl)
    ·(intro w' hx; have q := (bs.ext hx).c4; go_simp <;> with_reducible rfl)
    simp only [pA, pB, pC, pD]
    apply mixF 5 (by kernel_rfl) (by rfl) (by rfl)
    ·(intro w' hx; go_simp <;> with_reducible rfl)
    simp only [pA, pB, pC, pD]
    apply mixF 9 (by kernel_rfl) (by rfl) (by rfl)
    ·(intro w' hx; go_simp <;> with_reducible rfl)
    simp only [pA, pB, pC, pD]
    apply mixF 10 (by kernel_rfl) (by rfl) (by rfl)
    ·(intro w' hx; go_simp <;> with_reducible rfl)
    simp only [pA, pB, pC, pD]
    refine mixEnd (by kernel_rfl) ?_
    go_wp2_with fail
    go_meet
    exact ⟨_, rfl, Lib.hid (by simp [ByteArray.data_append, Hr.out, kWord]), by simp only [ByteArray.size_append, sizes, List.size_toArray, List.length_cons, List.length_nil]; omega, bx, hE⟩
  case rest =>
   obtain ⟨x, rfl, Hx, hx, bx, hE⟩ := hcut
   obtain ⟨A, n, c, rfl, hby, HN⟩ := (hb.ext hE).form
   obtain ⟨c0, c1, c2, c3⟩ := bx.c4
   have hcap := Sl.cap hby
   have hmax := Sl.max hby
   unfold maxLen at hmax
   have hn8 : n ≤ 8 := by have := HN.out; omega
   go_wp2
   go_loopw [3, 34] (fun v i wr => ∃ (k : Nat) (y : ByteArray), k ≤ n ∧ i = .int .i64 k ∧ v = .string y ∧ Hid (y.data.toList = wPut ++ 32 :: (Lib.itoa dy ++ 32 :: hflat (db.take k))) ∧ y.size ≤ 41 + 2 * k ∧ Ext wc wr) (fun _ i _ => n - (intOf i).toNat)
   case atStart =>
    refine ⟨0, _, Nat.zero_le _, rfl, rfl, Lib.hid (by simp [ByteArray.data_append, Hx.out, kWord, wPut, hflat]), by simp only [ByteArray.size_append, sizes, List.size_toArray, List.length_cons, List.length_nil]; omega, Below.refl _ _⟩
   case round =>
    obtain ⟨k, y, hk, rfl, rfl, Hy, hy, hd⟩ := hrel
    by_cases hlt : k < n
    ·obtain ⟨A', n', c', e', hby', HN'⟩ := (((hb.ext hE).ext hd)).form
     cases e'
     obtain ⟨b, o, x, rfl, hB, hck, h80, h81, Hb⟩ := hby'.byte hlt
     have F1 : ∀ pf, (((ByteArray.mk #[48, 49, 50, 51, 52, 53, 54, 55, 56, 57, 97, 98, 99, 100, 101, 102])[(x / 16).toNat]'pf).toNat : Int) = ((hdig ((db.getD k 0).toNat / 16)).toNat : Int) := fun pf => by
      rw [hexAt pf, show (x / 16).toNat = (db.getD k 0).toNat / 16 by have := Hb.out; omega]
     have F2 : ∀ pf, (((ByteArray.mk #[48, 49, 50, 51, 52, 53, 54, 55, 56, 57, 97, 98, 99, 100, 101, 102])[(x % 16).toNat]'pf).toNat : Int) = ((hdig ((db.getD k 0).toNat % 16)).toNat : Int) := fun pf => by
      rw [hexAt pf, show (x % 16).toNat = (db.getD k 0).toNat % 16 by have := Hb.out; omega]
     have G1 := encode_hdig (show (db.getD k 0).toNat / 16 < 16 by have := (db.getD k 0).toNat_lt; omega)
     have G2 := encode_hdig (show (db.getD k 0).toNat % 16 < 16 by omega)
     have hs := Lib.hid (hflat_succ db k (by have := HN.out; omega))
     obtain ⟨s1, hs1⟩ : ∃ s : ByteArray, s = ⟨#[hdig ((db.getD k 0).toNat / 16)]⟩ := ⟨_, rfl⟩
     obtain ⟨s2, hs2⟩ : ∃ s : ByteArray, s = ⟨#[hdig ((db.getD k 0).toNat % 16)]⟩ := ⟨_, rfl⟩
     rw [← hs1] at G1
     rw [← hs2] at G2
     have z1 : s1.size = 1 := by rw [hs1]; rfl
     have z2 : s2.size = 1 := by rw [hs2]; rfl
     have Hs1 : Hid (s1.data.toList = [hdig ((db.getD k 0).toNat / 16)]) := by rw [hs1]; exact Lib.hid rfl
     have Hs2 : Hid (s2.data.toList = [hdig ((db.getD k 0).toNat % 16)]) := by rw [hs2]; exact Lib.hid rfl
     obtain ⟨d1, hd1⟩ : ∃ d : Int, d = ((hdig ((db.getD k 0).toNat / 16)).toNat : Int) := ⟨_, rfl⟩
     obtain ⟨d2, hd2⟩ : ∃ d : Int, d = ((hdig ((db.getD k 0).toNat % 16)).toNat : Int) := ⟨_, rfl⟩
     rw [← hd1] at F1 G1
     rw [← hd2] at F2 G2
     clear hs1 hs2 hd1 hd2
     go_wp2_with fail
     go_quiet (fail)
     go_wp2
     go_roundw
     case rel =>
      refine ⟨k + 1, _, by omega, by go_num, rfl, Lib.hid ?_, by simp only [ByteArray.size_append]; omega, below_drewN hd _⟩
      rw [hs.out]
      simp [ByteArray.data_append, Hy.out, Hs1.out, Hs2.out]
     case measure => simp [intOf]; omega
    ·obtain rfl : k = n := by omega
     have e : hflat (db.take k) = hflat db := by rw [List.take_of_length_le (by have := HN.out; omega)]
     rw [e] at Hy
     obtain ⟨c0, c1, c2, c3⟩ := (bx.ext hd).c4
     by_cases h0 : k = 0
     ·have hl0 : db = [] := List.eq_nil_of_length_eq_zero (by have := HN.out; omega)
      have Hl := Lib.hid hl0
      clear hl0
      go_wp2
      go_ret
      exact ⟨congrArg (fun z => Ending.returned (.string z)) (bytes_of (by rw [ByteArray.data_append, Array.toList_append, Hy.out, Hl.out]; simp [tPrint, hexOf, hflat])), ext_trans hE hd⟩
     ·have hl0 : db ≠ [] := fun e => h0 (by have := HN.out; rw [e] at this; exact this)
      have q : ((k : Int) == 0) = false := by simp; omega
      have Hl : Hid (hexOf db = hflat db) := by unfold hexOf hflat; rw [if_neg hl0]; exact Lib.hid rfl
      clear hl0
      go_wp2
      go_ret
      exact ⟨congrArg (fun z => Ending.returned (.string z)) (bytes_of (by rw [Hy.out]; simp [tPrint, Hl.out])), ext_trans hE hd⟩
 ·skip
  go_wp2_with fail
  obtain ⟨W, hW⟩ : ∃ W, W = (w.alloc (.cells #[.int .i64 2, .int .i64 dy, .int .i64 dn, u] 24)) := ⟨_, rfl⟩
  rw [← hW]
  have bx : Box W w.heap.size 24 #[.int .i64 2, .int .i64 dy, .int .i64 dn, u] := by rw [hW]; exact Box.new w _ _ rfl
  have hE : Ext w W := by rw [hW]; exact ext_alloc _ _
  clear hW
  go_cut [3] from 6 to 15 (fun v wr => ∃ x : ByteArray, v = .string x ∧ Hid (x.data.toList = (kWord 2).data.toList ++ 32 :: Lib.itoa dy) ∧ x.size ≤ 40 ∧ Box wr w.heap.size 24 #[.int .i64 2, .int .i64 dy, .int .i64 dn, u] ∧ Ext w wr)
  case first =>
   refine wp_region_ext 11 [1, 2, 3, 4, 5, 6, 7, 9, 10] false rfl (by kernel_rfl) (by kernel_rfl) ?_
   have bx := bx.drew
   have hE : Ext w W.drew := hE.drew
   have hV : VarT W.drew := hV.ext hE
   apply mixF 1 (by kernel_rfl) (by rfl) (by rfl)
   ·(intro w' hx; go_simp <;> with_reducible rfl)
   simp only [pA, pB, pC, pD]
   apply mixF 2 (by kernel_rfl) (by rfl) (by rfl)
   ·(intro w' hx; have q := (bx.ext hx).c4.1; go_simp <;> with_reducible rfl)
   simp only [pA, pB, pC, pD]
   apply mixF 6 (by kernel_rfl) (by rfl) (by rfl)
   ·(intro w' hx; go_simp <;> with_reducible rfl)
   simp only [pA, pB, pC, pD]
   apply mixF 7 (by kernel_rfl) (by rfl) (by rfl)
   ·(intro w' hx; have q := (bx.ext hx).c4.2.1; go_simp <;> with_reducible rfl)
   simp only [pA, pB, pC, pD]
   refine mixS2 0 8 (by kernel_rfl) (by kernel_rfl) (by rfl) (by rfl) (by rfl) (by rfl) (fun K hK => ?_) (fun K hK => ?_)
   ·skip
    go_wp2
    generalize hwn : World.drew (World.alloc W _) = w1
    have he : Ext W.drew w1 := by rw [← hwn]; exact ext_alloc _ _
    have bs : Box w1 W.heap.size 9 #[.string ⟨#[]⟩, .string ⟨#[112, 117, 116]⟩, .string ⟨#[100, 101, 108, 101, 116, 101]⟩, .string ⟨#[112, 117, 114, 103, 101]⟩] := by rw [← hwn]; exact Box.new _ _ _ rfl
    clear hwn
    refine hK.out _ _ he ?_
    clear hK K
    try simp only [pA, pB, pC, pD]
    have hE := ext_trans hE he
    have bx := bx.ext he
    have hV := hV.ext he
    obtain ⟨gs, hgs⟩ : ∃ g, g = W.heap.size := ⟨_, rfl⟩
    rw [← hgs] at bs ⊢
    clear hgs he
    apply mixF 3 (by kernel_rfl) (by rfl) (by rfl)
    ·(intro w' hx; go_simp <;> with_reducible rfl)
    simp only [pA, pB, pC, pD]
    apply mixF 4 (by kernel_rfl) (by rfl) (by rfl)
    ·(intro w' hx; have q := (bs.ext hx).c4; go_simp <;> with_reducible rfl)
    simp only [pA, pB, pC, pD]
    apply mixF 5 (by kernel_rfl) (by rfl) (by rfl)
    ·(intro w' hx; go_simp <;> with_reducible rfl)
    simp only [pA, pB, pC, pD]
    refine mixS 8 (by kernel_rfl) (by kernel_rfl) (by rfl) (by rfl) (fun K hK => ?_)
    go_wp2_with (go_at_call 20; refine (hI _ hV).mono ?_; rintro e w2 ⟨rfl, he⟩)
    refine hK.out _ _ he ?_
    clear hK K
    try simp only [pA, pB, pC, pD]
    have hE := ext_trans hE he
    have bx := bx.ext he
    have hV := hV.ext he
    apply mixF 9 (by kernel_rfl) (by rfl) (by rfl)
    ·(intro w' hx; go_simp <;> with_reducible rfl)
    simp only [pA, pB, pC, pD]
    apply mixF 10 (by kernel_rfl) (by rfl) (by rfl)
    ·(intro w' hx; go_simp <;> with_reducible rfl)
    simp only [pA, pB, pC, pD]
    refine mixEnd (by kernel_rfl) ?_
    go_wp2_with fail
    go_meet
    exact ⟨_, rfl, Lib.hid (by simp [ByteArray.data_append, Hr.out, kWord]), by simp only [ByteArray.size_append, sizes, List.size_toArray, List.length_cons, List.length_nil]; omega, bx, hE⟩
   ·skip
    go_wp2_with (go_at_call 20; refine (hI _ hV).mono ?_; rintro e w1 ⟨rfl, he⟩)
    refine hK.out _ _ he ?_
    clear hK K
    try simp only [pA, pB, pC, pD]
    have hE := ext_trans hE he
    have bx := bx.ext he
    have hV := hV.ext he
    refine mixS 0 (by kernel_rfl) (by kernel_rfl) (by rfl) (by rfl) (fun K hK => ?_)
    go_wp2
    generalize hwn : World.alloc w1 _ = w2
    have he : Ext w1 w2 := by rw [← hwn]; exact ext_alloc _ _
    have bs : Box w2 w1.heap.size 9 #[.string ⟨#[]⟩, .string ⟨#[112, 117, 116]⟩, .string ⟨#[100, 101, 108, 101, 116, 101]⟩, .string ⟨#[112, 117, 114, 103, 101]⟩] := by rw [← hwn]; exact Box.new _ _ _ rfl
    clear hwn
    refine hK.out _ _ he ?_
    clear hK K
    try simp only [pA, pB, pC, pD]
    have hE := ext_trans hE he
    have bx := bx.ext he
    have hV := hV.ext he
    obtain ⟨gs, hgs⟩ : ∃ g, g = w1.heap.size := ⟨_, rfl⟩
    rw [← hgs] at bs ⊢
    clear hgs he
    apply mixF 3 (by kernel_rfl) (by rfl) (by rfl)
    ·(intro w' hx; go_simp <;> with_reducible rfl)
    simp only [pA, pB, pC, pD]
    apply mixF 4 (by kernel_rfl) (by rfl) (by rfl)
    ·(intro w' hx; have q := (bs.ext hx).c4; go_simp <;> with_reducible rfl)
    simp only [pA, pB, pC, pD]
    apply mixF 5 (by kernel_rfl) (by rfl) (by rfl)
    ·(intro w' hx; go_simp <;> with_reducible rfl)
    simp only [pA, pB, pC, pD]
    apply mixF 9 (by kernel_rfl) (by rfl) (by rfl)
    ·(intro w' hx; go_simp <;> with_reducible rfl)
    simp only [pA, pB, pC, pD]
    apply mixF 10 (by kernel_rfl) (by rfl) (by rfl)
    ·(intro w' hx; go_simp <;> with_reducible rfl)
    simp only [pA, pB, pC, pD]
    refine mixEnd (by kernel_rfl) ?_
    go_wp2_with fail
    go_meet
    exact ⟨_, rfl, Lib.hid (by simp [ByteArray.data_append, Hr.out, kWord]), by simp only [ByteArray.size_append, sizes, List.size_toArray, List.length_cons, List.length_nil]; omega, bx, hE⟩
  case rest =>
   obtain ⟨x, rfl, Hx, hx, bx, hE⟩ := hcut
   obtain ⟨c0, c1, c2, c3⟩ := bx.c4
   go_wp2
   go_ret
   exact ⟨congrArg (fun z => Ending.returned (.string z)) (bytes_of (by rw [Hx.out]; simp [kWord, tPrint, wDelete])), hE⟩
 ·skip
  obtain ⟨n0, n1⟩ := Hn.out rfl
  go_wp2_with fail
  obtain ⟨W, hW⟩ : ∃ W, W = (w.alloc (.cells #[.int .i64 3, .int .i64 dy, .int .i64 dn, u] 24)) := ⟨_, rfl⟩
  rw [← hW]
  have bx : Box W w.heap.size 24 #[.int .i64 3, .int .i64 dy, .int .i64 dn, u] := by rw [hW]; exact Box.new w _ _ rfl
  have hE : Ext w W := by rw [hW]; exact ext_alloc _ _
  clear hW
  go_cut [3] from 6 to 15 (fun v wr => ∃ x : ByteArray, v = .string x ∧ Hid (x.data.toList = (kWord 3).data.toList ++ 32 :: Lib.itoa dy) ∧ x.size ≤ 40 ∧ Box wr w.heap.size 24 #[.int .i64 3, .int .i64 dy, .int .i64 dn, u] ∧ Ext w wr)
  case first =>
   refine wp_region_ext 11 [1, 2, 3, 4, 5, 6, 7, 9, 10] false rfl (by kernel_rfl) (by kernel_rfl) ?_
   have bx := bx.drew
   have hE : Ext w W.drew := hE.drew
   have hV : VarT W.drew := hV.ext hE
   apply mixF 1 (by kernel_rfl) (by rfl) (by rfl)
   ·(intro w' hx; go_simp <;> with_reducible rfl)
   simp only [pA, pB, pC, pD]
   apply mixF 2 (by kernel_rfl) (by rfl) (by rfl)
   ·(intro w' hx; have q := (bx.ext hx).c4.1; go_simp <;> with_reducible rfl)
   simp only [pA, pB, pC, pD]
   apply mixF 6 (by kernel_rfl) (by rfl) (by rfl)
   ·(intro w' hx; go_simp <;> with_reducible rfl)
   simp only [pA, pB, pC, pD]
   apply mixF 7 (by kernel_rfl) (by rfl) (by rfl)
   ·(intro w' hx; have q := (bx.ext hx).c4.2.1; go_simp <;> with_reducible rfl)
   simp only [pA, pB, pC, pD]
   refine mixS2 0 8 (by kernel_rfl) (by kernel_rfl) (by rfl) (by rfl) (by rfl) (by rfl) (fun K hK => ?_) (fun K hK => ?_)
   ·skip
    go_wp2
    generalize hwn : World.drew (World.alloc W _) = w1
    have he : Ext W.drew w1 := by rw [← hwn]; exact ext_alloc _ _
    have bs : Box w1 W.heap.size 9 #[.string ⟨#[]⟩, .string ⟨#[112, 117, 116]⟩, .string ⟨#[100, 101, 108, 101, 116, 101]⟩, .string ⟨#[112, 117, 114, 103, 101]⟩] := by rw [← hwn]; exact Box.new _ _ _ rfl
    clear hwn
    refine hK.out _ _ he ?_
    clear hK K
    try simp only [pA, pB, pC, pD]
    have hE := ext_trans hE he
    have bx := bx.ext he
    have hV := hV.ext he
    obtain ⟨gs, hgs⟩ : ∃ g, g = W.heap.size := ⟨_, rfl⟩
    rw [← hgs] at bs ⊢
    clear hgs he
    apply mixF 3 (by kernel_rfl) (by rfl) (by rfl)
    ·(intro w' hx; go_simp <;> with_reducible rfl)
    simp only [pA, pB, pC, pD]
    apply mixF 4 (by kernel_rfl) (by rfl) (by rfl)
    ·(intro w' hx; have q := (bs.ext hx).c4; go_simp <;> with_reducible rfl)
    simp only [pA, pB, pC, pD]
    apply mixF 5 (by kernel_rfl) (by rfl) (by rfl)
    ·(intro w' hx; go_simp <;> with_reducible rfl)
    simp only [pA, pB, pC, pD]
    refine mixS 8 (by kernel_rfl) (by kernel_rfl) (by rfl) (by rfl) (fun K hK => ?_)
    go_wp2_with (go_at_call 20; refine (hI _ hV).mono ?_; rintro e w2 ⟨rfl, he⟩)
    refine hK.out _ _ he ?_
    clear hK K
    try simp only [pA, pB, pC, pD]
    have hE := ext_trans hE he
    have bx := bx.ext he
    have hV := hV.ext he
    apply mixF 9 (by kernel_rfl) (by rfl) (by rfl)
    ·(intro w' hx; go_simp <;> with_reducible rfl)
    simp only [pA, pB, pC, pD]
    apply mixF 10 (by kernel_rfl) (by rfl) (by rfl)
    ·(intro w' hx; go_simp <;> with_reducible rfl)
    simp only [pA, pB, pC, pD]
    refine mixEnd (by kernel_rfl) ?_
    go_wp2_with fail
    go_meet
    exact ⟨_, rfl, Lib.hid (by simp [ByteArray.data_append, Hr.out, kWord]), by simp only [ByteArray.size_append, sizes, List.size_toArray, List.length_cons, List.length_nil]; omega, bx, hE⟩
   ·skip
    go_wp2_with (go_at_call 20; refine (hI _ hV).mono ?_; rintro e w1 ⟨rfl, he⟩)
    refine hK.out _ _ he ?_
    clear hK K
    try simp only [pA, pB, pC, pD]
    have hE := ext_trans hE he
    have bx := bx.ext he
    have hV := hV.ext he
    refine mixS 0 (by kernel_rfl) (by kernel_rfl) (by rfl) (by rfl) (fun K hK => ?_)
    go_wp2
    generalize hwn : World.alloc w1 _ = w2
    have he : Ext w1 w2 := by rw [← hwn]; exact ext_alloc _ _
    have bs : Box w2 w1.heap.size 9 #[.string ⟨#[]⟩, .string ⟨#[112, 117, 116]⟩, .string ⟨#[100, 101, 108, 101, 116, 101]⟩, .string ⟨#[112, 117, 114, 103, 101]⟩] := by rw [← hwn]; exact Box.new _ _ _ rfl
    clear hwn
    refine hK.out _ _ he ?_
    clear hK K
    try simp only [pA, pB, pC, pD]
    have hE := ext_trans hE he
    have bx := bx.ext he
    have hV := hV.ext he
    obtain ⟨gs, hgs⟩ : ∃ g, g = w1.heap.size := ⟨_, rfl⟩
    rw [← hgs] at bs ⊢
    clear hgs he
    apply mixF 3 (by kernel_rfl) (by rfl) (by rfl)
    ·(intro w' hx; go_simp <;> with_reducible rfl)
    simp only [pA, pB, pC, pD]
    apply mixF 4 (by kernel_rfl) (by rfl) (by rfl)
    ·(intro w' hx; have q := (bs.ext hx).c4; go_simp <;> with_reducible rfl)
    simp only [pA, pB, pC, pD]
    apply mixF 5 (by kernel_rfl) (by rfl) (by rfl)
    ·(intro w' hx; go_simp <;> with_reducible rfl)
    simp only [pA, pB, pC, pD]
    apply mixF 9 (by kernel_rfl) (by rfl) (by rfl)
    ·(intro w' hx; go_simp <;> with_reducible rfl)
    simp only [pA, pB, pC, pD]
    apply mixF 10 (by kernel_rfl) (by rfl) (by rfl)
    ·(intro w' hx; go_simp <;> with_reducible rfl)
    simp only [pA, pB, pC, pD]
    refine mixEnd (by kernel_rfl) ?_
    go_wp2_with fail
    go_meet
    exact ⟨_, rfl, Lib.hid (by simp [ByteArray.data_append, Hr.out, kWord]), by simp only [ByteArray.size_append, sizes, List.size_toArray, List.length_cons, List.length_nil]; omega, bx, hE⟩
  case rest =>
   obtain ⟨x, rfl, Hx, hx, bx, hE⟩ := hcut
   obtain ⟨c0, c1, c2, c3⟩ := bx.c4
   obtain ⟨y, Hy, hy, hI2⟩ := itoa_named (n := dn) (by omega) (by omega) (hV.ext hE)
   go_wp2_with (go_at_call 20; refine hI2.mono ?_; rintro e w2 ⟨rfl, hE2⟩)
   go_ret
   exact ⟨congrArg (fun z => Ending.returned (.string z)) (bytes_of (by simp [ByteArray.data_append, Hx.out, Hy.out, kWord, tPrint, wPurge])), ext_trans hE hE2⟩
end Go.Proofs.YtdmnmfnmaccmoaaDoor
