/- The law TextTurns: written, and read again. -/
import Derived.Test.YtdmnmfnmaccmoaaDoorTx9
namespace Go.Proofs.YtdmnmfnmaccmoaaDoor
open Go Go.RowKit
theorem print_len {d : Ded} (h : mWrong d = 0) : (tPrint d).length ≤ 1000000000 := by
 obtain ⟨hk, k0, k1, hn, hn0, hl, hdd⟩ := mWrong_zero h
 have i1 := Lib.itoa_length_le d.key (by omega) (by omega)
 have i2 := hex_le d.data
 unfold tPrint
 split
 ·simp [wPut]; omega
 ·split
  ·simp [wDelete]; omega
  ·obtain ⟨n0, n1⟩ := hn (by omega)
   have i3 := Lib.itoa_length_le d.n (by omega) (by omega)
   simp [wPurge]; omega
set_option maxRecDepth 100000 in
set_option maxHeartbeats 4000000 in
theorem textTurns_law (W : World) (hV : VarT W) {l : List UInt8} (hl : l.length ≤ 1000000000) {v : Value} {d : Ded} (h : DedV W W.heap.size v d) :
  Calls Tryd.prog 4 #[.string ⟨l.toArray⟩, v] W fun e w' => e = .returned (.bool true) ∧ Below W.heap.size W w' := by
 have hP := fun w hV => parse_v l hl (w := w) hV
 have hls := listOf l
 obtain ⟨t, ht⟩ : ∃ t : ByteArray, t = ⟨l.toArray⟩ := ⟨_, rfl⟩
 rw [← ht] at hP hls ⊢
 clear ht
 obtain ⟨A0, n0, c0, rfl, _, _⟩ := h.at_
 have hE0 := ext_alloc W (.cells #[.int .i64 d.kind, .int .i64 d.key, .int .i64 d.n, .slice A0 n0 c0] 24)
 go_enter Tryd.func4, Tryd.ntmps4
 go_wp2_with (go_at_call 12; refine (alive7_w (hV.ext hE0)).mono ?_; refine Lib.hid ?_)
 rintro e w2 ⟨rfl, he⟩
 have hE := ext_trans hE0 he
 have b3 := (Box.new W #[.int .i64 d.kind, .int .i64 d.key, .int .i64 d.n, .slice A0 n0 c0] 24 rfl).ext he
 have hd := h.ext hE
 have hV := hV.ext hE
 clear hE0 he
 obtain ⟨y0, y1, y2, y3⟩ := b3.c4
 by_cases z : mWrong d = 0
 ·have hwr := rWrongDeed_v hd
  rw [z] at hwr
  go_wp2_with (go_at_call 9; refine hwr.mono ?_; refine Lib.hid ?_)
  rintro e w3 ⟨rfl, he⟩
  have hE := ext_trans hE he
  have b3 := b3.ext he
  have hd := hd.ext he
  have hV := hV.ext he
  clear he hwr y0 y1 y2 y3
  obtain ⟨y0, y1, y2, y3⟩ := b3.c4
  have hpr := print_v hd z hV
  have hpl := print_len z
  have hpp := fun w hV => parse_v (tPrint d) hpl (w := w) hV
  rw [parse_print z] at hpp
  obtain ⟨pd, hpd⟩ : ∃ b : ByteArray, b = ⟨(tPrint d).toArray⟩ := ⟨_, rfl⟩
  rw [← hpd] at hpr hpp
  clear hpd hpl
  go_wp2_with (go_at_call 10; refine hpr.mono ?_; refine Lib.hid ?_)
  rintro e w4 ⟨rfl, he⟩
  have hE := ext_trans hE he
  have b3 := b3.ext he
  have hd := hd.ext he
  have hV := hV.ext he
  clear he hpr y0 y1 y2 y3
  go_wp2_with (go_at_call 6; refine (hpp _ hV).mono ?_; refine Lib.hid ?_)
  rintro e w5 ⟨v5, q5, rfl, Hq5, d5, he⟩
  obtain rfl := Hq5.out
  have hE := ext_trans hE he
  have b3 := b3.ext he
  have hd := hd.ext he
  have hV := hV.ext he
  clear he hpp Hq5
  obtain ⟨A5, n5, c5, rfl, _, _⟩ := d5.at_
  go_upto_region 5 with (fail)
  generalize hwn : World.alloc w5 _ = w6
  have he : Ext w5 w6 := by rw [← hwn]; exact ext_alloc _ _
  have b5 : Box w6 w5.heap.size 24 #[.int .i64 d.kind, .int .i64 d.key, .int .i64 d.n, .slice A5 n5 c5] := by rw [← hwn]; exact Box.new _ _ _ rfl
  have hE := ext_trans hE he
  have b3 := b3.ext he
  have hd := hd.ext he
  have d5 := d5.ext he
  have hV := hV.ext he
  clear hwn he
  obtain ⟨g5, hg5⟩ : ∃ g, g = w5.heap.size := ⟨_, rfl⟩
  rw [← hg5] at b5 ⊢
  clear hg5
  obtain ⟨y0, y1, y2, y3⟩ := b3.c4
  obtain ⟨x0, x1, x2, x3⟩ := b5.c4
  have hsd := sameDeed_v hd d5
  rw [(dEq_iff d d).2 rfl] at hsd
  go_wp2_with (go_at_call 8; refine hsd.mono ?_; refine Lib.hid ?_)
  rintro e w7 ⟨rfl, he⟩
  have hE := ext_trans hE he
  have hV := hV.ext he
  clear he hsd y0 y1 y2 y3 x0 x1 x2 x3
  go_wp2_with (go_at_call 6; refine (hP _ hV).mono ?_; refine Lib.hid ?_)
  rintro e wa ⟨va, q, rfl, Hq, da, he⟩
  have hE := ext_trans hE he
  have hV := hV.ext he
  clear he hP
  obtain ⟨A, n, c, rfl, _, _⟩ := da.at_
  have Hp := Lib.hid (@print_parse l)
  obtain ⟨y, hy⟩ : ∃ y, y = tParse l := ⟨_, rfl⟩
  rw [← hy] at Hp Hq da ⊢
  clear hy
  go_upto_region 8 with (fail)
  generalize hwn : World.alloc wa _ = wb
  have he : Ext wa wb := by rw [← hwn]; exact ext_alloc _ _
  have b7 : Box wb wa.heap.size 24 #[.int .i64 y.1.kind, .int .i64 y.1.key, .int .i64 y.1.n, .slice A n c] := by rw [← hwn]; exact Box.new _ _ _ rfl
  have hE := ext_trans hE he
  have hV := hV.ext he
  have da := da.ext he
  clear hwn he
  obtain ⟨g7, hg7⟩ : ∃ g, g = wa.heap.size := ⟨_, rfl⟩
  rw [← hg7] at b7 ⊢
  clear hg7
  obtain ⟨x0, x1, x2, x3⟩ := b7.c4
  by_cases z : q = 0
  ·obtain ⟨p1, p2⟩ := Hp.out (Hq.out.symm.trans z)
   have hpr := print_v da p2 hV
   have hwr := fun w hd => rWrongDeed_v (w := w) (base := wa.heap.size) (dv := .agg #[.int .i64 y.1.kind, .int .i64 y.1.key, .int .i64 y.1.n, .slice A n c]) (d := y.1) hd
   rw [p2] at hwr
   rw [p1] at hpr
   have ht := listOf l
   obtain ⟨pb, hpb⟩ : ∃ b : ByteArray, b = ⟨l.toArray⟩ := ⟨_, rfl⟩
   rw [← hpb] at hpr ht
   have qq : (pb.toList == t.toList) = true := by rw [ht, hls]; simp
   subst z
   clear hpb p1 p2 Hp ht hls
   go_wp2_with (first | (go_at_call 10; refine hpr.mono ?_; rintro e w8 ⟨rfl, he8⟩; obtain ⟨x0, x1, x2, x3⟩ := (b7.ext he8).c4) | (go_at_call 9; refine (hwr _ (da.ext he8)).mono ?_; rintro e w9 ⟨rfl, he9⟩))
   go_ret
   exact ⟨rfl, ext_trans hE (ext_trans he8 he9)⟩
  ·have zq : (q != 0) = true := by simpa using z
   clear z
   go_wp2
   go_ret
   exact ⟨rfl, hE⟩
 ·have hwr := rWrongDeed_v hd
  obtain ⟨q, hq⟩ : ∃ q, q = mWrong d := ⟨_, rfl⟩
  rw [← hq] at hwr z
  have zq : (q == 0) = false := by simpa using z
  clear hq z
  go_wp2_with (go_at_call 9; refine hwr.mono ?_; refine Lib.hid ?_)
  rintro e w3 ⟨rfl, he⟩
  have hE := ext_trans hE he
  have hV := hV.ext he
  clear he hwr y0 y1 y2 y3
  go_wp2_with (go_at_call 6; refine (hP _ hV).mono ?_; refine Lib.hid ?_)
  rintro e wa ⟨va, q, rfl, Hq, da, he⟩
  have hE := ext_trans hE he
  have hV := hV.ext he
  clear he hP
  obtain ⟨A, n, c, rfl, _, _⟩ := da.at_
  have Hp := Lib.hid (@print_parse l)
  obtain ⟨y, hy⟩ : ∃ y, y = tParse l := ⟨_, rfl⟩
  rw [← hy] at Hp Hq da ⊢
  clear hy
  go_upto_region 8 with (fail)
  generalize hwn : World.alloc wa _ = wb
  have he : Ext wa wb := by rw [← hwn]; exact ext_alloc _ _
  have b7 : Box wb wa.heap.size 24 #[.int .i64 y.1.kind, .int .i64 y.1.key, .int .i64 y.1.n, .slice A n c] := by rw [← hwn]; exact Box.new _ _ _ rfl
  have hE := ext_trans hE he
  have hV := hV.ext he
  have da := da.ext he
  clear hwn he
  obtain ⟨g7, hg7⟩ : ∃ g, g = wa.heap.size := ⟨_, rfl⟩
  rw [← hg7] at b7 ⊢
  clear hg7
  obtain ⟨x0, x1, x2, x3⟩ := b7.c4
  by_cases z : q = 0
  ·obtain ⟨p1, p2⟩ := Hp.out (Hq.out.symm.trans z)
   have hpr := print_v da p2 hV
   have hwr := fun w hd => rWrongDeed_v (w := w) (base := wa.heap.size) (dv := .agg #[.int .i64 y.1.kind, .int .i64 y.1.key, .int .i64 y.1.n, .slice A n c]) (d := y.1) hd
   rw [p2] at hwr
   rw [p1] at hpr
   have ht := listOf l
   obtain ⟨pb, hpb⟩ : ∃ b : ByteArray, b = ⟨l.toArray⟩ := ⟨_, rfl⟩
   rw [← hpb] at hpr ht
   have qq : (pb.toList == t.toList) = true := by rw [ht, hls]; simp
   subst z
   clear hpb p1 p2 Hp ht hls
   go_wp2_with (first | (go_at_call 10; refine hpr.mono ?_; rintro e w8 ⟨rfl, he8⟩; obtain ⟨x0, x1, x2, x3⟩ := (b7.ext he8).c4) | (go_at_call 9; refine (hwr _ (da.ext he8)).mono ?_; rintro e w9 ⟨rfl, he9⟩))
   go_ret
   exact ⟨rfl, ext_trans hE (ext_trans he8 he9)⟩
  ·have zq : (q != 0) = true := by simpa using z
   clear z
   go_wp2
   go_ret
   exact ⟨rfl, hE⟩
end Go.Proofs.YtdmnmfnmaccmoaaDoor
