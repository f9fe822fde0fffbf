/- The statement PlayTells: the walk of the law. -/
import Derived.Test.YtmcgbdbhpnplmaaGreatSt6
import Derived.Test.YtmcgbdbhpnplmaaGreatSc8
namespace Go.Proofs.YtmcgbdbhpnplmaaGreat
open Go Go.RowKit
theorem StpV.all {w : World} {base : Nat} {v : Value} {x : Stp} (h : StpV w base v x) : StpV w w.heap.size v x := by
 obtain ⟨u, e, h⟩ := h
 exact ⟨u, e, h.all⟩
set_option maxRecDepth 100000 in
set_option maxHeartbeats 4000000 in
theorem playTells_law (w : World) {v xv : Value} {l : List Stp} {x : Stp} (hl : Row eStp [] w w.heap.size v l) (hs : StpV w w.heap.size xv x) :
  Calls Tryz.prog 7 #[v, xv] w fun e w' => e = .returned (.bool true) ∧ Ext w w' := by
 obtain ⟨A, n, c, rfl, _, _, HN⟩ := hl.form
 obtain ⟨A0, n0, c0, rfl, _, _⟩ := hs.at_
 go_enter Tryz.func7, Tryz.ntmps7
 go_upto_region 1 with (fail)
 generalize hwn : World.alloc w _ = w0
 have hx : Ext w w0 := by rw [← hwn]; exact ext_alloc _ _
 have b3 : Box w0 w.heap.size 67 #[.int .i64 x.kind, .int .i64 x.n, .int .i64 x.m, .int .i64 x.deed.kind, .int .i64 x.deed.key, .int .i64 x.deed.n, .slice A0 n0 c0] := by rw [← hwn]; exact Box.new _ _ _ rfl
 clear hwn
 have hl := hl.ext hx
 have hs := hs.ext hx
 obtain ⟨gd, hgd⟩ : ∃ g, g = w.heap.size := ⟨_, rfl⟩
 rw [show Box w0 w.heap.size 67 #[.int .i64 x.kind, .int .i64 x.n, .int .i64 x.m, .int .i64 x.deed.kind, .int .i64 x.deed.key, .int .i64 x.deed.n, .slice A0 n0 c0] ↔ Box w0 gd 67 #[.int .i64 x.kind, .int .i64 x.n, .int .i64 x.m, .int .i64 x.deed.kind, .int .i64 x.deed.key, .int .i64 x.deed.n, .slice A0 n0 c0] by rw [hgd]] at b3
 rw [← hgd]
 clear hgd
 by_cases hlen : 100 < n
 ·have q : decide ((100 : Int) < (n : Int)) = true := by simp; omega
  have q' : decide (100 < n) = true := by simp; omega
  have HL := Lib.hid (show 100 < l.length by have := HN.out; omega)
  clear HN
  go_wp2_with fail
  refine (playMany_v hl HL.out).mono ?_
  rintro e1 w1 ⟨rfl, he⟩
  have hx := ext_trans hx he
  clear he
  clear hl hs b3
  go_upto_region 2 with (fail)
  generalize hwn : World.alloc w1 _ = w2
  have he : Ext w1 w2 := by rw [← hwn]; exact ext_alloc _ _
  have b5 : Box w2 w1.heap.size 33 #[.slice none 0 0, .slice none 0 0, .slice none 0 0, .int .i64 0] := by rw [← hwn]; exact Box.new _ _ _ (by simp)
  clear hwn
  have hx := ext_trans hx he
  clear he
  have hw0 : IntKind.wrap .i64 0 = 0 := rfl
  obtain ⟨b5_0, b5_1, b5_2, b5_3⟩ := b5.c4
  have b5_z := b5.free
  have b5_l := b5.lt
  go_wp2_with fail
  go_ret
  exact ⟨rfl, hx⟩
 ·have HL := Lib.hid (show l.length ≤ 100 by have := HN.out; omega)
  have q : decide ((100 : Int) < (n : Int)) = false := by simp; omega
  have q' : decide (100 < n) = false := by simp; omega
  clear hlen HN
  go_wp2_with fail
  refine (playPlay_v hl HL.out).mono ?_
  rintro e1 w1 ⟨v1, es, ns, rfl, s1, re, rn, he⟩
  try clear b5_0 b5_1 b5_2 b5_3 b5_z b5_l
  have hx := ext_trans hx he
  have hl := hl.ext he
  have hs := hs.ext he
  have b3 := b3.ext he
  clear he
  obtain ⟨A1, n1, c1, E1, m1, e1, F1, k1, f1, rfl, _, _, _, _, _, _, _, _⟩ := s1.form
  obtain ⟨A6, n6, c6, rfl, _, hm6, HN6⟩ := re.form
  obtain ⟨A7, n7, c7, rfl, _, _, HN7⟩ := rn.form
  unfold maxLen at hm6
  go_upto_region 2 with (fail)
  generalize hwn : World.alloc w1 _ = w2
  have he : Ext w1 w2 := by rw [← hwn]; exact ext_alloc _ _
  have b5 : Box w2 w1.heap.size 33 #[.slice A1 n1 c1, .slice E1 m1 e1, .slice F1 k1 f1, .int .i64 (yPlay l).next] := by rw [← hwn]; exact Box.new _ _ _ (by simp)
  clear hwn
  have hx := ext_trans hx he
  have hl := hl.ext he
  have hs := hs.ext he
  have s1 := s1.ext he
  have re := re.ext he
  have rn := rn.ext he
  have b3 := b3.ext he
  clear he
  obtain ⟨g5, hgk⟩ : ∃ g, g = w1.heap.size := ⟨_, rfl⟩
  rw [← hgk] at b5 ⊢
  clear hgk
  have z9 := hx.size
  go_wp2_with fail
  refine (refPlay_v hl).mono ?_
  rintro e3 w3 ⟨v3, es', ns', rfl, s3, re', rn', he⟩
  have hx := ext_trans hx he
  have hs := hs.ext he
  have s1 := s1.ext he
  have re := re.ext he
  have rn := rn.ext he
  have b3 := b3.ext he
  have b5 := b5.ext he
  clear he
  clear hl q q'
  rw [List.take_of_length_le HL.out] at s3 re' rn'
  have HG := Lib.hid (yPlay_good l)
  generalize yPlay l = s at s1 s3 HG b5
  have h6 : n6 = l.length := by rw [HN6.out]; unfold yErrs; rw [List.length_map, yOut_length]
  obtain rfl : n7 = n6 := by rw [h6, HN7.out]; unfold yNums; rw [List.length_map, yOut_length]
  clear h6
  generalize yErrs sNew l = les at re re' HN6
  generalize yNums sNew l = lns at rn rn' HN7
  obtain ⟨A3, n3, c3, E3, m3, e3, F3, k3, f3, rfl, _, _, _, _, _, _, _, _⟩ := s3.form
  obtain ⟨A8, n8, c8, rfl, _, _, HN8⟩ := re'.form
  obtain ⟨A9, n9, c9, rfl, _, _, HN9⟩ := rn'.form
  obtain rfl : n8 = n7 := HN8.out.trans HN6.out.symm
  obtain rfl : n9 = n8 := HN9.out.trans HN7.out.symm
  clear HN6 HN7 HN8 HN9
  go_upto_region 5 with (fail)
  generalize hwn : World.alloc w3 _ = w4
  have he : Ext w3 w4 := by rw [← hwn]; exact ext_alloc _ _
  have b9 : Box w4 w3.heap.size 33 #[.slice A3 n3 c3, .slice E3 m3 e3, .slice F3 k3 f3, .int .i64 s.next] := by rw [← hwn]; exact Box.new _ _ _ (by simp)
  clear hwn
  have hx := ext_trans hx he
  have hs := hs.ext he
  have s1 := s1.ext he
  have s3 := s3.ext he
  have re := re.ext he
  have rn := rn.ext he
  have re' := re'.ext he
  have rn' := rn'.ext he
  have b3 := b3.ext he
  have b5 := b5.ext he
  clear he
  obtain ⟨g9, hgk⟩ : ∃ g, g = w3.heap.size := ⟨_, rfl⟩
  rw [← hgk] at b9 ⊢
  clear hgk
  obtain ⟨b5_0, b5_1, b5_2, b5_3⟩ := b5.c4
  have b5_z := b5.free
  have b5_l := b5.lt
  obtain ⟨b9_0, b9_1, b9_2, b9_3⟩ := b9.c4
  have b9_z := b9.free
  have b9_l := b9.lt
  go_wp2_with fail
  refine (sameStore_v s1 s3).mono ?_
  rintro e5 w5 ⟨rfl, he⟩
  try clear b5_0 b5_1 b5_2 b5_3 b5_z b5_l b9_0 b9_1 b9_2 b9_3 b9_z b9_l
  have hx := ext_trans hx he
  have hs := hs.ext he
  have s3 := s3.ext he
  have re := re.ext he
  have rn := rn.ext he
  have re' := re'.ext he
  have rn' := rn'.ext he
  have b3 := b3.ext he
  have b5 := b5.ext he
  have b9 := b9.ext he
  clear he
  clear s1 b5
  go_upto_region 8 with (fail)
  go_loopw [73] (fun i wr => ∃ a : Nat, a ≤ n9 ∧ i = .int .i64 a ∧ Ext w5 wr) (fun i _ => n9 - (intOf i).toNat)
  case atStart => exact ⟨0, by omega, rfl, Below.refl _ _⟩
  case round =>
   obtain ⟨a, ha, rfl, hxd⟩ := hrel
   by_cases hlt : a < n9
   ·have i0 : (0 : Int) ≤ (a : Int) := by omega
    have i1 : (a : Int) < (n9 : Int) := by omega
    obtain ⟨g1, o1, rfl, hg1, c1⟩ := (re.ext hxd).err_at hlt
    obtain ⟨g2, o2, rfl, hg2, c2⟩ := (re'.ext hxd).err_at hlt
    obtain ⟨g3, o3, rfl, hg3, c3⟩ := (rn.ext hxd).int_at hlt
    obtain ⟨g4, o4, rfl, hg4, c4⟩ := (rn'.ext hxd).int_at hlt
    generalize les.getD a 0 = y at c1 c2
    generalize lns.getD a 0 = z at c3 c4
    have qy : (y != y) = false := by simp
    have qz : (z != z) = false := by simp
    go_upto_region 10 with (fail)
    have hd0 : Ext wr wr.drew := (Below.refl _ _).drew
    have c1 := (hd0.cell (p := ⟨g1, o1 + a, none⟩) hg1).trans c1
    have c2 := (hd0.cell (p := ⟨g2, o2 + a, none⟩) hg2).trans c2
    have c3 := (hd0.cell (p := ⟨g3, o3 + a, none⟩) hg3).trans c3
    have c4 := (hd0.cell (p := ⟨g4, o4 + a, none⟩) hg4).trans c4
    have hg1 := Nat.lt_of_lt_of_le hg1 hd0.size
    have hg2 := Nat.lt_of_lt_of_le hg2 hd0.size
    have hg3 := Nat.lt_of_lt_of_le hg3 hd0.size
    have hg4 := Nat.lt_of_lt_of_le hg4 hd0.size
    have hxd := ext_trans hxd hd0
    clear hd0 hx hs s3 b3 b9
    refine wp_region_ext 20 [0, 1, 2, 3, 4, 5, 6, 7, 8, 9, 10, 11, 12, 13, 14, 15, 16, 17, 18, 19] false rfl (by kernel_rfl) (by kernel_rfl) ?_
    generalize wr.drew = D at hxd c1 c2 c3 c4 hg1 hg2 hg3 hg4 ⊢
    apply mixF 0 (by kernel_rfl) (by rfl) (by rfl)
    ·(intro w' hx; have x1 := (hx.cell (p := ⟨g1, o1 + a, none⟩) hg1).trans c1; have x2 := (hx.cell (p := ⟨g2, o2 + a, none⟩) hg2).trans c2; have x3 := (hx.cell (p := ⟨g3, o3 + a, none⟩) hg3).trans c3; have x4 := (hx.cell (p := ⟨g4, o4 + a, none⟩) hg4).trans c4; go_simp <;> with_reducible rfl)
    simp only [pA, pB, pC, pD]
    apply mixF 1 (by kernel_rfl) (by rfl) (by rfl)
    ·(intro w' hx; have x1 := (hx.cell (p := ⟨g1, o1 + a, none⟩) hg1).trans c1; have x2 := (hx.cell (p := ⟨g2, o2 + a, none⟩) hg2).trans c2; have x3 := (hx.cell (p := ⟨g3, o3 + a, none⟩) hg3).trans c3; have x4 := (hx.cell (p := ⟨g4, o4 + a, none⟩) hg4).trans c4; go_simp <;> with_reducible rfl)
    simp only [pA, pB, pC, pD]
    apply mixF 2 (by kernel_rfl) (by rfl) (by rfl)
    ·(intro w' hx; have x1 := (hx.cell (p := ⟨g1, o1 + a, none⟩) hg1).trans c1; have x2 := (hx.cell (p := ⟨g2, o2 + a, none⟩) hg2).trans c2; have x3 := (hx.cell (p := ⟨g3, o3 + a, none⟩) hg3).trans c3; have x4 := (hx.cell (p := ⟨g4, o4 + a, none⟩) hg4).trans c4; go_simp <;> with_reducible rfl)
    simp only [pA, pB, pC, pD]
    apply mixF 3 (by kernel_rfl) (by rfl) (by rfl)
    ·(intro w' hx; have x1 := (hx.cell (p := ⟨g1, o1 + a, none⟩) hg1).trans c1; have x2 := (hx.cell (p := ⟨g2, o2 + a, none⟩) hg2).trans c2; have x3 := (hx.cell (p := ⟨g3, o3 + a, none⟩) hg3).trans c3; have x4 := (hx.cell (p := ⟨g4, o4 + a, none⟩) hg4).trans c4; go_simp <;> with_reducible rfl)
    simp only [pA, pB, pC, pD]
    apply mixF 4 (by kernel_rfl) (by rfl) (by rfl)
    ·(intro w' hx; have x1 := (hx.cell (p := ⟨g1, o1 + a, none⟩) hg1).trans c1; have x2 := (hx.cell (p := ⟨g2, o2 + a, none⟩) hg2).trans c2; have x3 := (hx.cell (p := ⟨g3, o3 + a, none⟩) hg3).trans c3; have x4 := (hx.cell (p := ⟨g4, o4 + a, none⟩) hg4).trans c4; go_simp <;> with_reducible rfl)
    simp only [pA, pB, pC, pD]
    apply mixF 5 (by kernel_rfl) (by rfl) (by rfl)
    ·(intro w' hx; have x1 := (hx.cell (p := ⟨g1, o1 + a, none⟩) hg1).trans c1; have x2 := (hx.cell (p := ⟨g2, o2 + a, none⟩) hg2).trans c2; have x3 := (hx.cell (p := ⟨g3, o3 + a, none⟩) hg3).trans c3; have x4 := (hx.cell (p := ⟨g4, o4 + a, none⟩) hg4).trans c4; go_simp <;> with_reducible rfl)
    simp only [pA, pB, pC, pD]
    apply mixF 6 (by kernel_rfl) (by rfl) (by rfl)
    ·(intro w' hx; have x1 := (hx.cell (p := ⟨g1, o1 + a, none⟩) hg1).trans c1; have x2 := (hx.cell (p := ⟨g2, o2 + a, none⟩) hg2).trans c2; have x3 := (hx.cell (p := ⟨g3, o3 + a, none⟩) hg3).trans c3; have x4 := (hx.cell (p := ⟨g4, o4 + a, none⟩) hg4).trans c4; go_simp <;> with_reducible rfl)
    simp only [pA, pB, pC, pD]
    apply mixF 7 (by kernel_rfl) (by rfl) (by rfl)
    ·(intro w' hx; have x1 := (hx.cell (p := ⟨g1, o1 + a, none⟩) hg1).trans c1; have x2 := (hx.cell (p := ⟨g2, o2 + a, none⟩) hg2).trans c2; have x3 := (hx.cell (p := ⟨g3, o3 + a, none⟩) hg3).trans c3; have x4 := (hx.cell (p := ⟨g4, o4 + a, none⟩) hg4).trans c4; go_simp <;> with_reducible rfl)
    simp only [pA, pB, pC, pD]
    apply mixF 8 (by kernel_rfl) (by rfl) (by rfl)
    ·(intro w' hx; have x1 := (hx.cell (p := ⟨g1, o1 + a, none⟩) hg1).trans c1; have x2 := (hx.cell (p := ⟨g2, o2 + a, none⟩) hg2).trans c2; have x3 := (hx.cell (p := ⟨g3, o3 + a, none⟩) hg3).trans c3; have x4 := (hx.cell (p := ⟨g4, o4 + a, none⟩) hg4).trans c4; go_simp <;> with_reducible rfl)
    simp only [pA, pB, pC, pD]
    apply mixF 9 (by kernel_rfl) (by rfl) (by rfl)
    ·(intro w' hx; have x1 := (hx.cell (p := ⟨g1, o1 + a, none⟩) hg1).trans c1; have x2 := (hx.cell (p := ⟨g2, o2 + a, none⟩) hg2).trans c2; have x3 := (hx.cell (p := ⟨g3, o3 + a, none⟩) hg3).trans c3; have x4 := (hx.cell (p := ⟨g4, o4 + a, none⟩) hg4).trans c4; go_simp <;> with_reducible rfl)
    simp only [pA, pB, pC, pD]
    apply mixF 10 (by kernel_rfl) (by rfl) (by rfl)
    ·(intro w' hx; have x1 := (hx.cell (p := ⟨g1, o1 + a, none⟩) hg1).trans c1; have x2 := (hx.cell (p := ⟨g2, o2 + a, none⟩) hg2).trans c2; have x3 := (hx.cell (p := ⟨g3, o3 + a, none⟩) hg3).trans c3; have x4 := (hx.cell (p := ⟨g4, o4 + a, none⟩) hg4).trans c4; go_simp <;> with_reducible rfl)
    simp only [pA, pB, pC, pD]
    apply mixF 11 (by kernel_rfl) (by rfl) (by rfl)
    ·(intro w' hx; have x1 := (hx.cell (p := ⟨g1, o1 + a, none⟩) hg1).trans c1; have x2 := (hx.cell (p := ⟨g2, o2 + a, none⟩) hg2).trans c2; have x3 := (hx.cell (p := ⟨g3, o3 + a, none⟩) hg3).trans c3; have x4 := (hx.cell (p := ⟨g4, o4 + a, none⟩) hg4).trans c4; go_simp <;> with_reducible rfl)
    simp only [pA, pB, pC, pD]
    apply mixF 12 (by kernel_rfl) (by rfl) (by rfl)
    ·(intro w' hx; have x1 := (hx.cell (p := ⟨g1, o1 + a, none⟩) hg1).trans c1; have x2 := (hx.cell (p := ⟨g2, o2 + a, none⟩) hg2).trans c2; have x3 := (hx.cell (p := ⟨g3, o3 + a, none⟩) hg3).trans c3; have x4 := (hx.cell (p := ⟨g4, o4 + a, none⟩) hg4).trans c4; go_simp <;> with_reducible rfl)
    simp only [pA, pB, pC, pD]
    apply mixF 13 (by kernel_rfl) (by rfl) (by rfl)
    ·(intro w' hx; have x1 := (hx.cell (p := ⟨g1, o1 + a, none⟩) hg1).trans c1; have x2 := (hx.cell (p := ⟨g2, o2 + a, none⟩) hg2).trans c2; have x3 := (hx.cell (p := ⟨g3, o3 + a, none⟩) hg3).trans c3; have x4 := (hx.cell (p := ⟨g4, o4 + a, none⟩) hg4).trans c4; go_simp <;> with_reducible rfl)
    simp only [pA, pB, pC, pD]
    apply mixF 14 (by kernel_rfl) (by rfl) (by rfl)
    ·(intro w' hx; have x1 := (hx.cell (p := ⟨g1, o1 + a, none⟩) hg1).trans c1; have x2 := (hx.cell (p := ⟨g2, o2 + a, none⟩) hg2).trans c2; have x3 := (hx.cell (p := ⟨g3, o3 + a, none⟩) hg3).trans c3; have x4 := (hx.cell (p := ⟨g4, o4 + a, none⟩) hg4).trans c4; go_simp <;> with_reducible rfl)
    simp only [pA, pB, pC, pD]
    apply mixF 15 (by kernel_rfl) (by rfl) (by rfl)
    ·(intro w' hx; have x1 := (hx.cell (p := ⟨g1, o1 + a, none⟩) hg1).trans c1; have x2 := (hx.cell (p := ⟨g2, o2 + a, none⟩) hg2).trans c2; have x3 := (hx.cell (p := ⟨g3, o3 + a, none⟩) hg3).trans c3; have x4 := (hx.cell (p := ⟨g4, o4 + a, none⟩) hg4).trans c4; go_simp <;> with_reducible rfl)
    simp only [pA, pB, pC, pD]
    apply mixF 16 (by kernel_rfl) (by rfl) (by rfl)
    ·(intro w' hx; have x1 := (hx.cell (p := ⟨g1, o1 + a, none⟩) hg1).trans c1; have x2 := (hx.cell (p := ⟨g2, o2 + a, none⟩) hg2).trans c2; have x3 := (hx.cell (p := ⟨g3, o3 + a, none⟩) hg3).trans c3; have x4 := (hx.cell (p := ⟨g4, o4 + a, none⟩) hg4).trans c4; go_simp <;> with_reducible rfl)
    simp only [pA, pB, pC, pD]
    apply mixF 17 (by kernel_rfl) (by rfl) (by rfl)
    ·(intro w' hx; have x1 := (hx.cell (p := ⟨g1, o1 + a, none⟩) hg1).trans c1; have x2 := (hx.cell (p := ⟨g2, o2 + a, none⟩) hg2).trans c2; have x3 := (hx.cell (p := ⟨g3, o3 + a, none⟩) hg3).trans c3; have x4 := (hx.cell (p := ⟨g4, o4 + a, none⟩) hg4).trans c4; go_simp <;> with_reducible rfl)
    simp only [pA, pB, pC, pD]
    apply mixF 18 (by kernel_rfl) (by rfl) (by rfl)
    ·(intro w' hx; have x1 := (hx.cell (p := ⟨g1, o1 + a, none⟩) hg1).trans c1; have x2 := (hx.cell (p := ⟨g2, o2 + a, none⟩) hg2).trans c2; have x3 := (hx.cell (p := ⟨g3, o3 + a, none⟩) hg3).trans c3; have x4 := (hx.cell (p := ⟨g4, o4 + a, none⟩) hg4).trans c4; go_simp <;> with_reducible rfl)
    simp only [pA, pB, pC, pD]
    apply mixF 19 (by kernel_rfl) (by rfl) (by rfl)
    ·(intro w' hx; have x1 := (hx.cell (p := ⟨g1, o1 + a, none⟩) hg1).trans c1; have x2 := (hx.cell (p := ⟨g2, o2 + a, none⟩) hg2).trans c2; have x3 := (hx.cell (p := ⟨g3, o3 + a, none⟩) hg3).trans c3; have x4 := (hx.cell (p := ⟨g4, o4 + a, none⟩) hg4).trans c4; go_simp <;> with_reducible rfl)
    simp only [pA, pB, pC, pD]
    refine mixEnd (by kernel_rfl) ?_
    clear c1 c2 c3 c4 hg1 hg2 hg3 hg4
    go_wp2_with fail
    refine ⟨⟨a + 1, by omega, rfl, hxd⟩, ?_⟩
    simp only [intOf]
    omega
   ·obtain rfl : a = n9 := by omega
    clear re rn re' rn'
    have hx := ext_trans hx hxd
    have hs := hs.ext hxd
    have s3 := s3.ext hxd
    have b3 := b3.ext hxd
    have b9 := b9.ext hxd
    clear hxd
    obtain ⟨b3_0, b3_1, b3_2, b3_3, b3_4, b3_5, b3_6⟩ := b3.c7
    have b3_z := b3.free
    have b3_l := b3.lt
    obtain ⟨b9_0, b9_1, b9_2, b9_3⟩ := b9.c4
    have b9_z := b9.free
    have b9_l := b9.lt
    go_wp2_with fail
    refine (playDo_v s3 HG.out hs).mono ?_
    rintro e6 w6 ⟨v6, rfl, s6, he⟩
    try clear b3_0 b3_1 b3_2 b3_3 b3_4 b3_5 b3_6 b3_z b3_l b9_0 b9_1 b9_2 b9_3 b9_z b9_l
    have hx := ext_trans hx he
    have hs := hs.ext he
    have s3 := s3.ext he
    have b3 := b3.ext he
    have b9 := b9.ext he
    clear he
    obtain ⟨A6, n6, c6, E6, m6, e6, F6, k6, f6, rfl, _, _, _, _, _, _, _, _⟩ := s6.form
    go_upto_region 14 with (fail)
    generalize hwn : World.alloc w6 _ = w7
    have he : Ext w6 w7 := by rw [← hwn]; exact ext_alloc _ _
    have b13 : Box w7 w6.heap.size 33 #[.slice A6 n6 c6, .slice E6 m6 e6, .slice F6 k6 f6, .int .i64 (yDo s x).1.next] := by rw [← hwn]; exact Box.new _ _ _ (by simp)
    clear hwn
    have hx := ext_trans hx he
    have hs := hs.ext he
    have s3 := s3.ext he
    have s6 := s6.ext he
    have b3 := b3.ext he
    have b9 := b9.ext he
    clear he
    obtain ⟨g13, hgk⟩ : ∃ g, g = w6.heap.size := ⟨_, rfl⟩
    rw [← hgk] at b13 ⊢
    clear hgk
    obtain ⟨b3_0, b3_1, b3_2, b3_3, b3_4, b3_5, b3_6⟩ := b3.c7
    have b3_z := b3.free
    have b3_l := b3.lt
    obtain ⟨b9_0, b9_1, b9_2, b9_3⟩ := b9.c4
    have b9_z := b9.free
    have b9_l := b9.lt
    go_wp2_with fail
    refine (refStep_v (Nat.le_refl _) s3.all HG.out hs.all).mono ?_
    rintro e8 w8 ⟨v8, rfl, s8, he⟩
    try clear b3_0 b3_1 b3_2 b3_3 b3_4 b3_5 b3_6 b3_z b3_l b9_0 b9_1 b9_2 b9_3 b9_z b9_l
    have hx := ext_trans hx he
    have s6 := s6.ext he
    have b3 := b3.ext he
    have b9 := b9.ext he
    have b13 := b13.ext he
    clear he
    obtain ⟨A8, n8, c8, E8, m8, e8, F8, k8, f8, rfl, _, _, _, _, _, _, _, _⟩ := s8.form
    go_upto_region 15 with (fail)
    generalize hwn : World.alloc w8 _ = w9
    have he : Ext w8 w9 := by rw [← hwn]; exact ext_alloc _ _
    have b15 : Box w9 w8.heap.size 33 #[.slice A8 n8 c8, .slice E8 m8 e8, .slice F8 k8 f8, .int .i64 (yDo s x).1.next] := by rw [← hwn]; exact Box.new _ _ _ (by simp)
    clear hwn
    have hx := ext_trans hx he
    have s6 := s6.ext he
    have s8 := s8.ext he
    have b13 := b13.ext he
    clear he
    obtain ⟨g15, hgk⟩ : ∃ g, g = w8.heap.size := ⟨_, rfl⟩
    rw [← hgk] at b15 ⊢
    clear hgk
    clear s3 hs b3 b9
    generalize (yDo s x).1 = y at s6 s8 b13 b15
    generalize (yDo s x).2.1 = nn
    generalize (yDo s x).2.2 = qq
    have qe : (qq == qq) = true := by simp
    have qn : (nn == nn) = true := by simp
    obtain ⟨b13_0, b13_1, b13_2, b13_3⟩ := b13.c4
    have b13_z := b13.free
    have b13_l := b13.lt
    obtain ⟨b15_0, b15_1, b15_2, b15_3⟩ := b15.c4
    have b15_z := b15.free
    have b15_l := b15.lt
    go_wp2_with fail
    refine (sameStore_v s6 s8).mono ?_
    rintro e10 w10 ⟨rfl, he⟩
    try clear b13_0 b13_1 b13_2 b13_3 b13_z b13_l b15_0 b15_1 b15_2 b15_3 b15_z b15_l
    have hx := ext_trans hx he
    have b13 := b13.ext he
    have b15 := b15.ext he
    clear he
    go_wp2_with fail
    go_ret
    exact ⟨rfl, hx⟩
end Go.Proofs.YtmcgbdbhpnplmaaGreat
