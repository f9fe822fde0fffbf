/- Walks: the closed fact of chapter 12. -/
import Derived.Test.YtmcgbdbhpnplmaaGreatSt9
import Derived.Test.YtmcgbdbhpnplmaaGreatStL
import Derived.Test.YtmcgbdbhpnplmaaGreatSc2
namespace Go.Proofs.YtmcgbdbhpnplmaaGreat
open Go Go.RowKit
def dN : Ded := ⟨0, 0, 0, []⟩
def l12 : List Stp := [⟨1, 0, 0, dE⟩, ⟨3, 5, 1, dN⟩, ⟨3, 20, 1, dN⟩]
theorem l12_lists : (yLists [] ⟨2, 0, 0, dE⟩).length = 2 := by decide +kernel
theorem l12_one : ((yLists [] ⟨2, 0, 0, dE⟩).getD 1 []).length = 1 := by decide +kernel
theorem l12_walk : yWalkTo sNew l12 = 2 := by decide +kernel
theorem l12_gentle : gentle sNew ⟨3, 0, 0, dN⟩ = true := by decide +kernel
theorem l12_mount : (yLists [] ⟨6, 0, 0, dN⟩).length = 1 := by decide +kernel
set_option maxRecDepth 100000 in
set_option maxHeartbeats 4000000 in
theorem alive12_w (w : World) : Calls Tryz.prog 50 #[] w fun e w' => e = .returned (.bool true) ∧ Ext w w' := by
 go_enter Tryz.func50, Tryz.ntmps50
 go_upto_region 2 with (fail)
 generalize hwn : World.alloc w _ = w1
 have hx : Ext w w1 := by rw [← hwn]; exact ext_alloc _ _
 have b1 : Box w1 w.heap.size 25 #[.int .i64 1, .int .i64 7, .int .i64 0, .slice none 0 0] := by rw [← hwn]; exact Box.new _ _ _ rfl
 clear hwn
 obtain ⟨b1_0, b1_1, b1_2, b1_3⟩ := b1.c4
 have b1_z := b1.free
 have b1_l := b1.lt
 go_wp2_with fail
 refine (mayLists_v (x := ⟨2, 0, 0, dE⟩) (Row.nil eRec [] w1 0) (by simp) (by simp) ⟨_, rfl, ByT.nil _ 0⟩).mono ?_
 rintro e2 w2 ⟨v2, rfl, R2, he⟩
 try clear b1_0 b1_1 b1_2 b1_3 b1_z b1_l
 have hx := ext_trans hx he
 have b1 := b1.ext he
 clear he
 obtain ⟨A2, n2, c2, rfl, _, _, HN2⟩ := R2.form
 obtain rfl : n2 = 2 := HN2.out.trans l12_lists
 clear HN2
 obtain ⟨b1_0, b1_1, b1_2, b1_3⟩ := b1.c4
 have b1_z := b1.free
 have b1_l := b1.lt
 go_wp2_with fail
 try clear b1_0 b1_1 b1_2 b1_3 b1_z b1_l
 generalize hwn : World.alloc w2 _ = w3
 have he : Ext w2 w3 := by rw [← hwn]; exact ext_alloc _ _
 have hl : Row eStp [] w3 w3.heap.size (.slice (some ⟨w2.heap.size, 0, none⟩) 3 3) l12 := by
  rw [← hwn]
  have := steps_lit (w := w2) (T := []) l12 (by decide) (by unfold maxLen; decide) (0, 0)
  exact this.all
 clear hwn
 have hx := ext_trans hx he
 have R2 := R2.ext he
 clear he b1
 refine (mayWalk_v hl).mono ?_
 rintro e4 w4 ⟨rfl, he⟩
 rw [l12_walk]
 have hx := ext_trans hx he
 have R2 := R2.ext he
 clear he hl
 obtain ⟨g5, o5, u5, rfl, hg5, c5, r5⟩ := R2.at_ (i := 1) (by omega)
 obtain ⟨A6, n6, c6, rfl, _, _, HN6⟩ := r5.form
 obtain rfl : n6 = 1 := HN6.out.trans l12_one
 clear HN6 r5 R2
 go_wp2_with fail
 refine (refStoNew_v _).mono ?_
 rintro e7 w7 ⟨v7, rfl, s7, he⟩
 have hx := ext_trans hx he
 clear he
 go_wp2_with fail
 refine (mayGentle_v (x := ⟨3, 0, 0, dN⟩) s7 new_good ⟨_, rfl, ByT.nil _ 0⟩).mono ?_
 rintro e8 w8 ⟨rfl, he⟩
 have hx := ext_trans hx he
 clear he
 rw [l12_gentle]
 clear s7
 go_wp2_with fail
 refine (mayLists_v (x := ⟨6, 0, 0, dN⟩) (Row.nil eRec [] w8 0) (by simp) (by simp) ⟨_, rfl, ByT.nil _ 0⟩).mono ?_
 rintro e9 w9 ⟨v9, rfl, R9, he⟩
 have hx := ext_trans hx he
 clear he
 obtain ⟨A9, n9, c9, rfl, _, _, HN9⟩ := R9.form
 obtain rfl : n9 = 1 := HN9.out.trans l12_mount
 clear HN9 R9
 go_wp2_with fail
 go_ret
 exact ⟨rfl, hx⟩
end Go.Proofs.YtmcgbdbhpnplmaaGreat
