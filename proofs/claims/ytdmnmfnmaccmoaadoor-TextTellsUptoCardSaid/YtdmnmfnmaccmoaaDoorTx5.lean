/- Walks of chapter 7: a number, a deed's text. -/
import Derived.Test.YtdmnmfnmaccmoaaDoorTx4
import Derived.Lib.ItoaLen
namespace Go.Proofs.YtdmnmfnmaccmoaaDoor
open Go Go.RowKit
theorem bytes_of {x : ByteArray} {l : List UInt8} (h : x.data.toList = l) : x = ⟨l.toArray⟩ := by
 cases x with
 | mk a => subst h; simp
theorem tNum_none {l : List UInt8} (h : ∀ u, Lib.atoiAll l ≠ .ok u) : tNum l = none := by
 unfold tNum
 split
 ·rename_i v hv
  exact absurd hv (h v)
 ·rfl
set_option maxHeartbeats 4000000 in
set_option maxRecDepth 100000 in
theorem number_v (l : List UInt8) (hl : l.length ≤ 1000000000) {w : World} (hV : VarT w) :
  Calls Tryd.prog 14 #[.string ⟨l.toArray⟩] w fun e w' => ∃ v b, e = .returned (.tuple #[.int .i64 v, .bool b]) ∧ Hid (b = (tNum l).isSome ∧ ∀ n, tNum l = some n → v = n) ∧ Ext w w' := by
 have hA := atoi_v l (by omega) hV
 have hls := listOf l
 obtain ⟨t, ht⟩ : ∃ t : ByteArray, t = ⟨l.toArray⟩ := ⟨_, rfl⟩
 rw [← ht] at hA hls ⊢
 clear ht
 go_enter Tryd.func14, Tryd.ntmps14
 go_wp2_with (go_at_call 19; refine hA.mono ?_; refine Lib.hid ?_)
 refine fun e w1 ⟨⟨v, x, he, h0, h1, hx⟩, hE⟩ => ?_
 subst he
 have hx := Lib.hid hx
 rcases hx.out with ⟨rfl, ha⟩ | ⟨⟨tp, p, rfl⟩, ha⟩
 ·have hI := itoa_v h0 h1 (hV.ext hE)
  have hT : tNum l = if Lib.itoa v = l then some v else none := by unfold tNum; rw [ha]
  have hl2 := listOf (Lib.itoa v)
  obtain ⟨r, hr⟩ : ∃ r : ByteArray, r = ⟨(Lib.itoa v).toArray⟩ := ⟨_, rfl⟩
  rw [← hr] at hI hl2
  clear hr hA
  by_cases q : Lib.itoa v = l
  ·have q' : (r.toList == t.toList) = true := by rw [hl2, hls]; simpa using q
   have HT : Hid (true = (tNum l).isSome ∧ ∀ n, tNum l = some n → v = n) := by
    rw [hT, if_pos q]
    exact ⟨rfl, fun n h => by injection h⟩
   clear hl2 hls hT q ha hx
   go_wp2_with (go_at_call 20; refine hI.mono ?_; rintro e w2 ⟨rfl, hE2⟩)
   go_ret2
   exact ⟨_, _, rfl, HT, ext_trans hE hE2⟩
  ·have q' : (r.toList == t.toList) = false := by rw [hl2, hls]; simpa using q
   have HT : Hid (false = (tNum l).isSome ∧ ∀ n, tNum l = some n → v = n) := by
    rw [hT, if_neg q]
    exact ⟨rfl, fun n h => by cases h⟩
   clear hl2 hls hT q ha hx
   go_wp2_with (go_at_call 20; refine hI.mono ?_; rintro e w2 ⟨rfl, hE2⟩)
   go_ret2
   exact ⟨_, _, rfl, HT, ext_trans hE hE2⟩
 ·have HT : Hid (false = (tNum l).isSome ∧ ∀ n, tNum l = some n → v = n) := by
   rw [tNum_none ha]
   exact ⟨rfl, fun n h => by cases h⟩
  clear hls ha hx hA
  go_wp2
  go_ret2
  exact ⟨_, _, rfl, HT, hE⟩
theorem hex_le (l : List UInt8) : (hexOf l).length ≤ 2 * l.length + 1 := by
 unfold hexOf
 split
 ·show 1 ≤ _; omega
 ·rw [hex_len]; omega
theorem itoa_named {n : Int} (h0 : -9223372036854775808 ≤ n) (h1 : n ≤ 9223372036854775807) {w : World} (h : VarT w) :
  ∃ r : ByteArray, Hid (r.data.toList = Lib.itoa n) ∧ r.size ≤ 21 ∧ Calls Tryd.prog 20 #[.int .i64 n] w fun e w' => e = .returned (.string r) ∧ Ext w w' :=
 ⟨⟨(Lib.itoa n).toArray⟩, Lib.hid (by simp), by rw [sizeOf_]; exact Lib.itoa_length_le n h0 h1, itoa_v h0 h1 h⟩
theorem hex_named {base : Nat} {v : Value} {l : List UInt8} {w : World} (h : ByT w base v l) (hlen : l.length ≤ 1000) :
  ∃ r : ByteArray, Hid (r.data.toList = hexOf l) ∧ r.size ≤ 2001 ∧ Calls Tryd.prog 21 #[v] w fun e w' => e = .returned (.string r) ∧ Ext w w' :=
 ⟨⟨(hexOf l).toArray⟩, Lib.hid (by simp), by rw [sizeOf_]; have := hex_le l; omega, hex_v h (by omega)⟩
set_option maxHeartbeats 4000000 in
set_option maxRecDepth 100000 in
theorem print_v {base : Nat} {dv : Value} {d : Ded} {w : World} (h : DedV w base dv d) (hd : mWrong d = 0) (hV : VarT w) :
  Calls Tryd.prog 10 #[dv] w fun e w' => e = .returned (.string ⟨(tPrint d).toArray⟩) ∧ Ext w w' := by
 obtain ⟨hk, k0, k1, hn, hn0, hl, hdd⟩ := mWrong_zero hd
 obtain ⟨u, rfl, hb⟩ := h
 obtain ⟨dk, dy, dn, db⟩ := d
 simp only at hk k0 k1 hn hn0 hl hdd hb
 go_enter Tryd.func10, Tryd.ntmps10
 obtain ⟨r, Hr, hr, hI⟩ := itoa_named (n := dy) (by omega) (by omega) (hV.ext (ext_alloc w (.cells #[.int .i64 dk, .int .i64 dy, .int .i64 dn, u] 24)))
 go_wp2_with (go_at_call 20; refine hI.mono ?_; refine Lib.hid ?_)
 rintro e w1 ⟨rfl, hE⟩
 have hE0 := ext_alloc w (.cells #[.int .i64 dk, .int .i64 dy, .int .i64 dn, u] 24)
 have box := (Box.new w #[.int .i64 dk, .int .i64 dy, .int .i64 dn, u] 24 rfl).ext hE
 have hE1 := ext_trans hE0 hE
 obtain ⟨c0, c1, c2, c3⟩ := box.c4
 have hb1 := hb.ext hE1
 have hV1 := hV.ext hE1
 clear hE0 hE box
 rcases hk with rfl | rfl | rfl
 ·obtain ⟨x, Hx, hx, hh⟩ := hex_named hb1 (by omega)
  clear hn hn0 hdd hd
  go_wp2_with (go_at_call 21; refine hh.mono ?_; rintro e w2 ⟨rfl, hE2⟩)
  go_ret
  refine ⟨congrArg (fun z => Ending.returned (.string z)) (bytes_of ?_), ext_trans hE1 hE2⟩
  simp [ByteArray.data_append, Hr.out, Hx.out, tPrint, wPut]
 ·clear hn hn0 hdd hd
  go_wp2
  go_ret
  refine ⟨congrArg (fun z => Ending.returned (.string z)) (bytes_of ?_), hE1⟩
  simp [ByteArray.data_append, Hr.out, tPrint, wDelete]
 ·obtain ⟨n0, n1⟩ := hn rfl
  obtain ⟨x, Hx, hx, hI2⟩ := itoa_named (n := dn) (by omega) (by omega) hV1
  clear hn hn0 hdd hd
  go_wp2_with (go_at_call 20; refine hI2.mono ?_; rintro e w2 ⟨rfl, hE2⟩)
  go_ret
  refine ⟨congrArg (fun z => Ending.returned (.string z)) (bytes_of ?_), ext_trans hE1 hE2⟩
  simp [ByteArray.data_append, Hr.out, Hx.out, tPrint, wPurge]
end Go.Proofs.YtdmnmfnmaccmoaaDoor
