/- Walks: the closed fact of chapter 8. -/
import Derived.Test.YtmcgbdbhpnplmaaGreatSt3
import Derived.Test.YtmcgbdbhpnplmaaGreatSt4
namespace Go.Proofs.YtmcgbdbhpnplmaaGreat
open Go Go.RowKit
def d8 : Ded := ⟨1, 7, 0, [97, 98]⟩
def s8 : Sto := (sDo sNew d8).1
theorem s8_good : sGood s8 := do_good new_good d8
theorem d8_n : (sDo sNew d8).2.1 = 1 := by decide +kernel
theorem d8_e : (sDo sNew d8).2.2 = 0 := by decide +kernel
theorem d8_f : (sBegin sNew d8).2.2 = 0 := by decide +kernel
theorem d8_late : (sBegin sNew d8).1.disk.late.length = 2 := by decide +kernel
theorem d8_get : sGet s8 7 = ([97, 98], 0) := by decide +kernel
theorem d8_none : (sRecs (sMount (sBegin sNew d8).1.disk)).length = 0 := by decide +kernel
theorem d8_one : (sRecs (sMount s8.disk)).length = 1 := by decide +kernel
theorem d8_list : (sList s8 1 9).length = 1 := by decide +kernel
theorem d8_len : s8.index.length = 1 := by decide +kernel
set_option maxRecDepth 100000 in
set_option maxHeartbeats 4000000 in
theorem alive8_w (w : World) : Calls Tryz.prog 31 #[] w fun e w' => e = .returned (.bool true) ∧ Ext w w' := by
 have kc := fun (w : World) (C : Array Value) (n c : Nat) => Lib.run_convert_bytes_const (P := Tryz.prog) w 23 5 C n c Tryz.underlying23 Tryz.underlying5
 have hx : Ext w w := Below.refl _ _
 go_enter Tryz.func31, Tryz.ntmps31
 go_wp2_with fail
 refine (stoNew_v _).mono ?_
 rintro e1 w1 ⟨v1, rfl, s1, he⟩
 have hx := ext_trans hx he
 clear he
 obtain ⟨A1, n1, c1, E1, m1, e1, F1, k1, f1, rfl, _, _, _, _, _, _, _, _⟩ := s1.form
 go_upto_region 2 with (fail)
 generalize hwn : World.alloc w1 _ = w2
 have he : Ext w1 w2 := by rw [← hwn]; exact ext_alloc _ _
 have b1 : Box w2 w1.heap.size 33 #[.slice A1 n1 c1, .slice E1 m1 e1, .slice F1 k1 f1, .int .i64 sNew.next] := by rw [← hwn]; exact Box.new _ _ _ (by simp)
 clear hwn
 have hx := ext_trans hx he
 have s1 := s1.ext he
 clear he
 obtain ⟨g1, hg1⟩ : ∃ g, g = w1.heap.size := ⟨_, rfl⟩
 rw [← hg1] at b1 ⊢
 clear hg1
 go_upto_region 3 with (fail)
 generalize hwn : World.alloc (World.alloc w2 _) _ = w3
 have he : Ext w2 w3 := by rw [← hwn]; exact (ext_alloc _ _).alloc (by simp) _
 have hb : By w3 w3.heap.size (some ⟨w2.heap.size, 0, none⟩) 2 2 [97, 98] := by
  rw [← hwn]
  exact Sl.more (Sl.alloc (Sl.new w2 [.int .u8 97, .int .u8 98] 5 (2, 3) 1 2 rfl (by unfold maxLen; omega) (Nat.lt_succ_self _)) (by simp) _) (by simp)
 have b2 : Box w3 (w2.heap.size + 1) 25 #[.int .i64 1, .int .i64 7, .int .i64 0, .slice (some ⟨w2.heap.size, 0, none⟩) 2 2] := by rw [← hwn]; exact Box.new _ _ _ (size_alloc _ _).symm
 clear hwn kc
 have hx := ext_trans hx he
 have s1 := s1.ext he
 have b1 := b1.ext he
 clear he
 obtain ⟨gd, hgd⟩ : ∃ g, g = w2.heap.size := ⟨_, rfl⟩
 rw [← hgd] at b2 hb ⊢
 clear hgd
 have hd : DedV w3 w3.heap.size (.agg #[.int .i64 1, .int .i64 7, .int .i64 0, .slice (some ⟨gd, 0, none⟩) 2 2]) d8 := ⟨_, rfl, ByT.of_by hb (Nat.le_refl _) (Nat.le_refl _)⟩
 clear hb
 obtain ⟨b1_0, b1_1, b1_2, b1_3⟩ := b1.c4
 have b1_z := b1.free
 have b1_l := b1.lt
 obtain ⟨b2_0, b2_1, b2_2, b2_3⟩ := b2.c4
 have b2_z := b2.free
 have b2_l := b2.lt
 go_wp2_with fail
 refine (stoDo_v (d := d8) s1 new_good hd).mono ?_
 rintro e3 w4 ⟨v4, rfl, s4, he⟩
 try clear b1_0 b1_1 b1_2 b1_3 b1_z b1_l b2_0 b2_1 b2_2 b2_3 b2_z b2_l
 have hx := ext_trans hx he
 have s1 := s1.ext he
 have hd := hd.ext he
 have b1 := b1.ext he
 have b2 := b2.ext he
 clear he
 rw [d8_n, d8_e]
 rw [show (sDo sNew d8).1 = s8 from rfl] at s4
 obtain ⟨A4, n4, c4, E4, m4, e4, F4, k4, f4, rfl, d4, _, _, _, _, _, _, _⟩ := s4.form
 go_upto_region 4 with (fail)
 generalize hwn : World.alloc w4 _ = w5
 have he : Ext w4 w5 := by rw [← hwn]; exact ext_alloc _ _
 have b3 : Box w5 w4.heap.size 33 #[.slice A4 n4 c4, .slice E4 m4 e4, .slice F4 k4 f4, .int .i64 s8.next] := by rw [← hwn]; exact Box.new _ _ _ (by simp)
 clear hwn
 have hx := ext_trans hx he
 have s1 := s1.ext he
 have s4 := s4.ext he
 have d4 := d4.ext he
 have hd := hd.ext he
 have b1 := b1.ext he
 have b2 := b2.ext he
 clear he
 obtain ⟨g3, hg3⟩ : ∃ g, g = w4.heap.size := ⟨_, rfl⟩
 rw [← hg3] at b3 ⊢
 clear hg3
 obtain ⟨b1_0, b1_1, b1_2, b1_3⟩ := b1.c4
 have b1_z := b1.free
 have b1_l := b1.lt
 obtain ⟨b2_0, b2_1, b2_2, b2_3⟩ := b2.c4
 have b2_z := b2.free
 have b2_l := b2.lt
 go_wp2_with fail
 refine (stoBegin_v (d := d8) s1 new_good hd).mono ?_
 rintro e5 w6 ⟨v6, rfl, s6, he⟩
 try clear b1_0 b1_1 b1_2 b1_3 b1_z b1_l b2_0 b2_1 b2_2 b2_3 b2_z b2_l
 have hx := ext_trans hx he
 have s4 := s4.ext he
 have d4 := d4.ext he
 have b1 := b1.ext he
 have b2 := b2.ext he
 have b3 := b3.ext he
 clear he
 clear s1 hd b1 b2
 rw [d8_f]
 generalize (sBegin sNew d8).2.1 = nb
 obtain ⟨A6, n6, c6, E6, m6, e6, F6, k6, f6, rfl, d6, _, _, HM6, _, _, _, _⟩ := s6.form
 obtain rfl : m6 = 2 := HM6.out.trans d8_late
 clear HM6 s6
 go_upto_region 5 with (fail)
 generalize hwn : World.alloc w6 _ = w7
 have he : Ext w6 w7 := by rw [← hwn]; exact ext_alloc _ _
 have b6 : Box w7 w6.heap.size 33 #[.slice A6 n6 c6, .slice E6 2 e6, .slice F6 k6 f6, .int .i64 (sBegin sNew d8).1.next] := by rw [← hwn]; exact Box.new _ _ _ (by simp)
 clear hwn
 have hx := ext_trans hx he
 have s4 := s4.ext he
 have d4 := d4.ext he
 have d6 := d6.ext he
 have b3 := b3.ext he
 clear he
 obtain ⟨g6, hg6⟩ : ∃ g, g = w6.heap.size := ⟨_, rfl⟩
 rw [← hg6] at b6 ⊢
 clear hg6
 obtain ⟨b3_0, b3_1, b3_2, b3_3⟩ := b3.c4
 have b3_z := b3.free
 have b3_l := b3.lt
 go_wp2_with fail
 refine (stoGet_v (key := 7) s4 s8_good.fine s8_good.right).mono ?_
 rintro e8 w8 ⟨v8, q8, rfl, HQ, hy, he⟩
 try clear b3_0 b3_1 b3_2 b3_3 b3_z b3_l
 have hx := ext_trans hx he
 have s4 := s4.ext he
 have d4 := d4.ext he
 have d6 := d6.ext he
 have b3 := b3.ext he
 have b6 := b6.ext he
 clear he
 rw [d8_get] at HQ hy
 obtain rfl : q8 = 0 := HQ.out
 obtain ⟨A8, n8, c8, rfl, hy, HN8⟩ := hy.form
 obtain rfl : n8 = 2 := HN8.out
 clear HN8 HQ
 obtain ⟨b6_0, b6_1, b6_2, b6_3⟩ := b6.c4
 have b6_z := b6.free
 have b6_l := b6.lt
 go_wp2_with fail
 refine (stoMount_v d6 (begin_fine new_good d8)).mono ?_
 rintro e9 w9 ⟨v9, rfl, s9, he⟩
 try clear b6_0 b6_1 b6_2 b6_3 b6_z b6_l
 have hx := ext_trans hx he
 have s4 := s4.ext he
 have d4 := d4.ext he
 have hy := hy.ext he
 have b3 := b3.ext he
 have b6 := b6.ext he
 clear he
 clear d6
 obtain ⟨A9, n9, c9, E9, m9, e9, F9, k9, f9, rfl, _, _, _, _, _, _, _, _⟩ := s9.form
 go_upto_region 7 with (fail)
 generalize hwn : World.alloc w9 _ = w10
 have he : Ext w9 w10 := by rw [← hwn]; exact ext_alloc _ _
 have b11 : Box w10 w9.heap.size 33 #[.slice A9 n9 c9, .slice E9 m9 e9, .slice F9 k9 f9, .int .i64 (sMount (sBegin sNew d8).1.disk).next] := by rw [← hwn]; exact Box.new _ _ _ (by simp)
 clear hwn
 have hx := ext_trans hx he
 have s4 := s4.ext he
 have d4 := d4.ext he
 have hy := hy.ext he
 have b3 := b3.ext he
 have b6 := b6.ext he
 have s9 := s9.ext he
 clear he
 obtain ⟨g11, hg11⟩ : ∃ g, g = w9.heap.size := ⟨_, rfl⟩
 rw [← hg11] at b11 ⊢
 clear hg11
 have cv := run_str hy
 have HLM := Lib.hid d8_none
 unfold sRecs at HLM
 have HLM : Hid ((sMount (sBegin sNew d8).1.disk).index.length = 0) := Lib.hid (by have := HLM.out; rwa [List.length_map] at this)
 obtain ⟨b3_0, b3_1, b3_2, b3_3⟩ := b3.c4
 have b3_z := b3.free
 have b3_l := b3.lt
 obtain ⟨b6_0, b6_1, b6_2, b6_3⟩ := b6.c4
 have b6_z := b6.free
 have b6_l := b6.lt
 obtain ⟨b11_0, b11_1, b11_2, b11_3⟩ := b11.c4
 have b11_z := b11.free
 have b11_l := b11.lt
 go_wp2_with fail
 refine (stoRecs_v s9 (by rw [HLM.out]; omega) (fun e h => by rw [List.eq_nil_of_length_eq_zero HLM.out] at h; cases h)).mono ?_
 rintro e12 w12 ⟨v12, rfl, o12, he⟩
 try clear b3_0 b3_1 b3_2 b3_3 b3_z b3_l b6_0 b6_1 b6_2 b6_3 b6_z b6_l b11_0 b11_1 b11_2 b11_3 b11_z b11_l
 have hx := ext_trans hx he
 have s4 := s4.ext he
 have d4 := d4.ext he
 have b3 := b3.ext he
 have b6 := b6.ext he
 have b11 := b11.ext he
 clear he
 obtain ⟨A12, n12, c12, rfl, _, _, HN⟩ := o12.form
 obtain rfl : n12 = 0 := HN.out.trans d8_none
 clear o12 HN s9 cv hy b6 b11 HLM
 obtain ⟨b3_0, b3_1, b3_2, b3_3⟩ := b3.c4
 have b3_z := b3.free
 have b3_l := b3.lt
 go_wp2_with fail
 refine (stoMount_v d4 (good_fine s8_good.disk)).mono ?_
 rintro e13 w13 ⟨v13, rfl, s13, he⟩
 try clear b3_0 b3_1 b3_2 b3_3 b3_z b3_l
 have hx := ext_trans hx he
 have s4 := s4.ext he
 have b3 := b3.ext he
 clear he
 have HF13 := Lib.hid (mount_good s8_good.disk.even).fine
 go_wp2_with fail
 refine (stoRecs_v s13 HF13.out.len HF13.out.small).mono ?_
 rintro e14 w14 ⟨v14, rfl, o14, he⟩
 have hx := ext_trans hx he
 have s4 := s4.ext he
 have b3 := b3.ext he
 clear he
 obtain ⟨A14, n14, c14, rfl, _, _, HN⟩ := o14.form
 obtain rfl : n14 = 1 := HN.out.trans d8_one
 clear o14 HN s13 d4 HF13
 obtain ⟨b3_0, b3_1, b3_2, b3_3⟩ := b3.c4
 have b3_z := b3.free
 have b3_l := b3.lt
 go_wp2_with fail
 refine (stoList_v (st := 1) (mo := 9) s4 s8_good.fine s8_good.right).mono ?_
 rintro e15 w15 ⟨v15, rfl, o15, he⟩
 try clear b3_0 b3_1 b3_2 b3_3 b3_z b3_l
 have hx := ext_trans hx he
 have s4 := s4.ext he
 have b3 := b3.ext he
 clear he
 obtain ⟨A15, n15, c15, rfl, _, _, HN⟩ := o15.form
 obtain rfl : n15 = 1 := HN.out.trans d8_list
 clear o15 HN
 obtain ⟨b3_0, b3_1, b3_2, b3_3⟩ := b3.c4
 have b3_z := b3.free
 have b3_l := b3.lt
 go_wp2_with fail
 refine (stoOwn_v s4 s8_good.fine).mono ?_
 rintro e16 w16 ⟨v16, rfl, s16, he⟩
 try clear b3_0 b3_1 b3_2 b3_3 b3_z b3_l
 have hx := ext_trans hx he
 have b3 := b3.ext he
 clear he
 obtain ⟨A16, n16, c16, E16, m16, e16, F16, k16, f16, rfl, _, _, _, _, HK, _, _, _⟩ := s16.form
 obtain rfl : k16 = 1 := HK.out.trans d8_len
 clear HK s16
 have hfd : ∀ w : World, (Instr.field 33 (.agg #[.slice A16 n16 c16, .slice E16 m16 e16, .slice F16 1 f16, .int .i64 s8.next]) 1).run Tryz.prog w = .ok (.slice F16 1 f16) w := fun _ => by kernel_rfl
 go_wp2_with fail
 go_ret
 exact ⟨rfl, hx⟩
end Go.Proofs.YtmcgbdbhpnplmaaGreat
