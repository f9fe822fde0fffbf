/- Walks: the closed fact of chapter 11. -/
import Derived.Test.YtmcgbdbhpnplmaaGreatSt6
import Derived.Test.YtmcgbdbhpnplmaaGreatStL
namespace Go.Proofs.YtmcgbdbhpnplmaaGreat
open Go Go.RowKit
def l11 : List Stp := [⟨1, 0, 0, dE⟩, ⟨2, 0, 0, dE⟩, ⟨2, 1, 0, dE⟩, ⟨3, 999, 0, ⟨0, 0, 0, []⟩⟩]
def s11 : Sto := yPlay l11
theorem s11_good : sGood s11 := yPlay_good l11
theorem l11_errs : yErrs sNew l11 = [0, 0, 0, 3] := by decide +kernel
theorem l11_nums : yNums sNew l11 = [1, 2, 2, 0] := by decide +kernel
theorem l11_len : s11.index.length = 2 := by decide +kernel
theorem l11_do : (yDo s11 ⟨1, 0, 0, dE⟩).2.1 = 3 := by decide +kernel
theorem l11_err : (yDo s11 ⟨1, 0, 0, dE⟩).2.2 = 0 := by decide +kernel
theorem l11_len3 : (yDo s11 ⟨1, 0, 0, dE⟩).1.index.length = 3 := by decide +kernel
set_option maxRecDepth 100000 in
set_option maxHeartbeats 4000000 in
theorem alive11_w (w : World) : Calls Tryz.prog 40 #[] w fun e w' => e = .returned (.bool true) ∧ Ext w w' := by
 go_enter Tryz.func40, Tryz.ntmps40
 go_upto_region 2 with (fail)
 generalize hwn : World.alloc w _ = w1
 have hx : Ext w w1 := by rw [← hwn]; exact ext_alloc _ _
 have b1 : Box w1 w.heap.size 25 #[.int .i64 1, .int .i64 7, .int .i64 0, .slice none 0 0] := by rw [← hwn]; exact Box.new _ _ _ rfl
 clear hwn
 obtain ⟨b1_0, b1_1, b1_2, b1_3⟩ := b1.c4
 have b1_z := b1.free
 have b1_l := b1.lt
 go_wp2_with fail
 try clear b1_0 b1_1 b1_2 b1_3 b1_z b1_l
 generalize hwn : World.alloc w1 _ = w2
 have he : Ext w1 w2 := by rw [← hwn]; exact ext_alloc _ _
 have hl : Row eStp [] w2 w2.heap.size (.slice (some ⟨w1.heap.size, 0, none⟩) 4 4) l11 := by
  rw [← hwn]
  have := steps_lit (w := w1) (T := []) l11 (by decide) (by unfold maxLen; decide) (0, 0)
  exact this.all
 clear hwn
 have hx := ext_trans hx he
 have b1 := b1.ext he
 clear he
 refine (playPlay_v hl (by decide)).mono ?_
 rintro e3 w3 ⟨v3, es, ns, rfl, s3, re, rn, he⟩
 have hx := ext_trans hx he
 have b1 := b1.ext he
 clear he hl
 rw [show yPlay l11 = s11 from rfl] at s3
 rw [l11_errs] at re
 rw [l11_nums] at rn
 obtain ⟨A3, n3, c3, E3, m3, e3, F3, k3, f3, rfl, _, _, _, _, HK, _, _, _⟩ := s3.form
 obtain rfl : k3 = 2 := HK.out.trans l11_len
 obtain ⟨A4, n4, c4, rfl, _, _, HN4⟩ := re.form
 obtain ⟨A5, n5, c5, rfl, _, _, HN5⟩ := rn.form
 obtain rfl : n4 = 4 := HN4.out
 obtain rfl : n5 = 4 := HN5.out
 clear HK HN4 HN5
 go_upto_region 3 with (fail)
 generalize hwn : World.alloc w3 _ = w4
 have he : Ext w3 w4 := by rw [← hwn]; exact ext_alloc _ _
 have b2 : Box w4 w3.heap.size 33 #[.slice A3 n3 c3, .slice E3 m3 e3, .slice F3 2 f3, .int .i64 s11.next] := by rw [← hwn]; exact Box.new _ _ _ (by simp)
 clear hwn
 have hx := ext_trans hx he
 have b1 := b1.ext he
 have s3 := s3.ext he
 have re := re.ext he
 have rn := rn.ext he
 clear he
 obtain ⟨g2, hg2⟩ : ∃ g, g = w3.heap.size := ⟨_, rfl⟩
 rw [← hg2] at b2 ⊢
 clear hg2
 obtain ⟨b1_0, b1_1, b1_2, b1_3⟩ := b1.c4
 have b1_z := b1.free
 have b1_l := b1.lt
 obtain ⟨b2_0, b2_1, b2_2, b2_3⟩ := b2.c4
 have b2_z := b2.free
 have b2_l := b2.lt
 go_wp2_with fail
 refine (playDo_v (x := ⟨1, 0, 0, dE⟩) s3 s11_good ⟨_, rfl, ByT.nil _ 0⟩).mono ?_
 rintro e5 w5 ⟨v5, rfl, s5, he⟩
 try clear b1_0 b1_1 b1_2 b1_3 b1_z b1_l b2_0 b2_1 b2_2 b2_3 b2_z b2_l
 have hx := ext_trans hx he
 have re := re.ext he
 have rn := rn.ext he
 have b1 := b1.ext he
 have b2 := b2.ext he
 clear he
 rw [l11_do, l11_err]
 obtain ⟨A6, n6, c6, E6, m6, e6, F6, k6, f6, rfl, _, _, _, _, HK, _, _, _⟩ := s5.form
 obtain rfl : k6 = 3 := HK.out.trans l11_len3
 clear HK s5 s3 b1
 go_upto_region 4 with (fail)
 generalize hwn : World.alloc w5 _ = w6
 have he : Ext w5 w6 := by rw [← hwn]; exact ext_alloc _ _
 have b6 : Box w6 w5.heap.size 33 #[.slice A6 n6 c6, .slice E6 m6 e6, .slice F6 3 f6, .int .i64 (yDo s11 ⟨1, 0, 0, dE⟩).1.next] := by rw [← hwn]; exact Box.new _ _ _ (by simp)
 clear hwn
 have hx := ext_trans hx he
 have re := re.ext he
 have rn := rn.ext he
 have b2 := b2.ext he
 clear he
 obtain ⟨g6, hg6⟩ : ∃ g, g = w5.heap.size := ⟨_, rfl⟩
 rw [← hg6] at b6 ⊢
 clear hg6
 obtain ⟨g7, o7, rfl, hg7, c7⟩ := re.err_at (i := 3) (by omega)
 obtain ⟨g8, o8, rfl, hg8, c8⟩ := rn.int_at (i := 0) (by omega)
 obtain ⟨g9, o9, e9, hg9, c9⟩ := rn.int_at (i := 2) (by omega)
 obtain ⟨rfl, rfl⟩ : g8 = g9 ∧ o8 = o9 := by simpa using e9
 simp only [Nat.add_zero, List.getD_cons_zero, List.getD_cons_succ] at c7 c8 c9
 clear re rn e9
 obtain ⟨b2_0, b2_1, b2_2, b2_3⟩ := b2.c4
 have b2_z := b2.free
 have b2_l := b2.lt
 obtain ⟨b6_0, b6_1, b6_2, b6_3⟩ := b6.c4
 have b6_z := b6.free
 have b6_l := b6.lt
 go_wp2_with fail
 go_ret
 exact ⟨rfl, hx⟩
end Go.Proofs.YtmcgbdbhpnplmaaGreat
