/- Walks: the closed fact of chapter 6. -/
import Derived.Test.YtnganglmpcbcbaaG3
import Derived.Lib.SlBytesConst
namespace Go.Proofs.Ytnganglmpcbcbaa
open Go Go.RowKit

def aR1 : Rec := ⟨2, 7, 1, [97, 98]⟩
def aR2 : Rec := ⟨3, 7, 2, []⟩
theorem aDo1 : mDo [] ⟨1, 7, 0, [97, 98]⟩ = ([aR1], 1, 0) := by decide
theorem aDo2 : mDo [aR1] ⟨2, 7, 0, []⟩ = ([aR1, aR2], 2, 0) := by decide
theorem aOne1 : ∀ r ∈ [aR1], rOne r = true := by decide
theorem aOne2 : ∀ r ∈ [aR1, aR2], rOne r = true := by decide
theorem aGet1 : mGet [aR1] 7 = ([97, 98], 0) := by decide
theorem aGet2 : mGet [aR1, aR2] 7 = ([], 10) := by decide

set_option maxRecDepth 100000 in
set_option maxHeartbeats 4000000 in
theorem alive6_w (w : World) : Calls Try.prog 75 #[] w fun e w' => e = .returned (.bool true) ∧ Ext w w' := by
  have kc := fun (w : World) (C : Array Value) (n c : Nat) => Lib.run_convert_bytes_const (P := Try.prog) w 22 5 C n c Try.underlying22 Try.underlying5
  go_enter Try.func75, Try.ntmps75
  go_wp2_with fail
  generalize hwn : World.alloc (World.alloc w _) _ = W
  have hb1 : By W W.heap.size (some ⟨w.heap.size, 0, none⟩) 2 2 [97, 98] := by
    rw [← hwn]
    exact Sl.more (Sl.alloc (Sl.new w [.int .u8 97, .int .u8 98] 5 (2, 3) 1 2 rfl (by unfold maxLen; omega) (Nat.lt_succ_self _)) (by simp) _) (by simp)
  have b1 : Box W (w.heap.size + 1) 64 #[.int .i64 1, .int .i64 7, .int .i64 0, .slice (some ⟨w.heap.size, 0, none⟩) 2 2] := by rw [← hwn]; exact Box.new _ _ _ (size_alloc _ _).symm
  have hx : Ext w W := by rw [← hwn]; exact ext_trans (ext_alloc _ _) (ext_alloc _ _)
  clear hwn
  refine (mDo_v (T := []) (base := 0) (Row.nil eRec [] W 0) (by simp) (by simp) (Nat.zero_le _) hb1 (by rw [blim_def]; omega) (.inl rfl)).mono ?_
  rintro e1 w1 ⟨x1, m1, q1, rfl, hm1, hq1, o1, he⟩
  rw [aDo1] at hm1 hq1 o1
  have hm1 := hm1.out
  have hq1 := hq1.out
  simp only at hm1 hq1 o1
  subst hm1 hq1
  have hx := ext_trans hx he
  have b1 := b1.ext he
  have hb1 := hb1.ext he
  clear he
  have F1 := o1.row (T := [32]) (base := 0) (by decide) (Nat.le_refl _)
  obtain ⟨A1, n1, c1, rfl, _, _, HN1⟩ := o1.form
  obtain rfl : n1 = 1 := HN1.out
  clear o1 HN1
  go_wp2_with fail
  refine (mDo_v F1 aOne1 (by simp) (Nat.zero_le _) (c := 0) (A := none) (b := []) (Sl.nil_ _ _ _) (by rw [blim_def]; omega) (.inr (.inl rfl))).mono ?_
  rintro e2 w2 ⟨x2, m2, q2, rfl, hm2, hq2, o2, he⟩
  rw [aDo2] at hm2 hq2 o2
  have hm2 := hm2.out
  have hq2 := hq2.out
  simp only at hm2 hq2 o2
  subst hm2 hq2
  have hx := ext_trans hx he
  have b1 := b1.ext he
  have hb1 := hb1.ext he
  have F1 := F1.ext he
  clear he
  have F2 := o2.row (T := [32]) (base := 0) (by decide) (Nat.le_refl _)
  obtain ⟨A2, n2, c2, rfl, _, _, HN2⟩ := o2.form
  obtain rfl : n2 = 2 := HN2.out
  clear o2 HN2
  go_wp2_with fail
  refine (mGet_v (key := 7) F1 aOne1).mono ?_
  rintro e3 w3 ⟨v3, q3, rfl, hq3, hy3, he⟩
  rw [aGet1] at hq3 hy3
  have hq3 := hq3.out
  simp only at hq3 hy3
  subst hq3
  obtain ⟨A3, n3, c3, rfl, hy3, HN3⟩ := hy3.form
  obtain rfl : n3 = 2 := HN3.out
  clear HN3
  have hx := ext_trans hx he
  have b1 := b1.ext he
  have hb1 := hb1.ext he
  have F1 := F1.ext he
  have F2 := F2.ext he
  clear he
  go_wp2_with fail
  refine (mGet_v (key := 7) F2 aOne2).mono ?_
  rintro e4 w4 ⟨v4, q4, rfl, hq4, hy4, he⟩
  rw [aGet2] at hq4
  have hq4 := hq4.out
  simp only at hq4
  subst hq4
  obtain ⟨A4, n4, c4, rfl, hy4, HN4⟩ := hy4.form
  have hx := ext_trans hx he
  have b1 := b1.ext he
  have hb1 := hb1.ext he
  have F1 := F1.ext he
  have F2 := F2.ext he
  have hy3 := hy3.ext he
  clear he HN4 hy4
  go_upto_region 6 with (fail)
  have hx := hx.drew
  have b1 := b1.drew
  have hb1 := hb1.ext ((Below.refl _ _).drew)
  have F1 := F1.ext ((Below.refl _ _).drew)
  have F2 := F2.ext ((Below.refl _ _).drew)
  have hy3 := hy3.ext ((Below.refl _ _).drew)
  refine wp_region_ext 51 [0, 1, 2, 3, 4, 5, 6, 7, 8, 9, 10, 11, 12, 13, 14, 15, 16, 17, 18, 19, 20, 21, 22, 23, 24, 25, 26, 27, 28, 30, 31, 32, 33, 35, 36, 37, 38, 40, 41, 42, 44, 45, 46, 47, 49, 50] false rfl (by kernel_rfl) (by kernel_rfl) ?_
  generalize w4.drew = D at hx b1 hb1 F1 F2 hy3 ⊢
  apply mixF 0 (by kernel_rfl) (by rfl) (by rfl)
  · (intro w' hx; go_simp <;> with_reducible rfl)
  simp only [Act.put, List.setIfInBounds_toArray, List.set_cons_zero, List.set_cons_succ]
  apply mixF 1 (by kernel_rfl) (by rfl) (by rfl)
  · (intro w' hx; go_simp <;> with_reducible rfl)
  simp only [Act.put, List.setIfInBounds_toArray, List.set_cons_zero, List.set_cons_succ]
  apply mixF 2 (by kernel_rfl) (by rfl) (by rfl)
  · (intro w' hx; go_simp <;> with_reducible rfl)
  simp only [Act.put, List.setIfInBounds_toArray, List.set_cons_zero, List.set_cons_succ]
  apply mixF 3 (by kernel_rfl) (by rfl) (by rfl)
  · (intro w' hx; go_simp <;> with_reducible rfl)
  simp only [Act.put, List.setIfInBounds_toArray, List.set_cons_zero, List.set_cons_succ]
  apply mixF 4 (by kernel_rfl) (by rfl) (by rfl)
  · (intro w' hx; go_simp <;> with_reducible rfl)
  simp only [Act.put, List.setIfInBounds_toArray, List.set_cons_zero, List.set_cons_succ]
  apply mixF 5 (by kernel_rfl) (by rfl) (by rfl)
  · (intro w' hx; go_simp <;> with_reducible rfl)
  simp only [Act.put, List.setIfInBounds_toArray, List.set_cons_zero, List.set_cons_succ]
  apply mixF 6 (by kernel_rfl) (by rfl) (by rfl)
  · (intro w' hx; go_simp <;> with_reducible rfl)
  simp only [Act.put, List.setIfInBounds_toArray, List.set_cons_zero, List.set_cons_succ]
  apply mixF 7 (by kernel_rfl) (by rfl) (by rfl)
  · (intro w' hx; go_simp <;> with_reducible rfl)
  simp only [Act.put, List.setIfInBounds_toArray, List.set_cons_zero, List.set_cons_succ]
  apply mixF 8 (by kernel_rfl) (by rfl) (by rfl)
  · (intro w' hx; go_simp <;> with_reducible rfl)
  simp only [Act.put, List.setIfInBounds_toArray, List.set_cons_zero, List.set_cons_succ]
  apply mixF 9 (by kernel_rfl) (by rfl) (by rfl)
  · (intro w' hx; go_simp <;> with_reducible rfl)
  simp only [Act.put, List.setIfInBounds_toArray, List.set_cons_zero, List.set_cons_succ]
  apply mixF 10 (by kernel_rfl) (by rfl) (by rfl)
  · (intro w' hx; go_simp <;> with_reducible rfl)
  simp only [Act.put, List.setIfInBounds_toArray, List.set_cons_zero, List.set_cons_succ]
  apply mixF 11 (by kernel_rfl) (by rfl) (by rfl)
  · (intro w' hx; go_simp <;> with_reducible rfl)
  simp only [Act.put, List.setIfInBounds_toArray, List.set_cons_zero, List.set_cons_succ]
  apply mixF 12 (by kernel_rfl) (by rfl) (by rfl)
  · (intro w' hx; go_simp <;> with_reducible rfl)
  simp only [Act.put, List.setIfInBounds_toArray, List.set_cons_zero, List.set_cons_succ]
  apply mixF 13 (by kernel_rfl) (by rfl) (by rfl)
  · (intro w' hx; go_simp <;> with_reducible rfl)
  simp only [Act.put, List.setIfInBounds_toArray, List.set_cons_zero, List.set_cons_succ]
  apply mixF 14 (by kernel_rfl) (by rfl) (by rfl)
  · (intro w' hx; go_simp <;> with_reducible rfl)
  simp only [Act.put, List.setIfInBounds_toArray, List.set_cons_zero, List.set_cons_succ]
  apply mixF 15 (by kernel_rfl) (by rfl) (by rfl)
  · (intro w' hx; go_simp <;> with_reducible rfl)
  simp only [Act.put, List.setIfInBounds_toArray, List.set_cons_zero, List.set_cons_succ]
  apply mixF 16 (by kernel_rfl) (by rfl) (by rfl)
  · (intro w' hx; go_simp <;> with_reducible rfl)
  simp only [Act.put, List.setIfInBounds_toArray, List.set_cons_zero, List.set_cons_succ]
  apply mixF 17 (by kernel_rfl) (by rfl) (by rfl)
  · (intro w' hx; go_simp <;> with_reducible rfl)
  simp only [Act.put, List.setIfInBounds_toArray, List.set_cons_zero, List.set_cons_succ]
  apply mixF 18 (by kernel_rfl) (by rfl) (by rfl)
  · (intro w' hx; go_simp <;> with_reducible rfl)
  simp only [Act.put, List.setIfInBounds_toArray, List.set_cons_zero, List.set_cons_succ]
  apply mixF 19 (by kernel_rfl) (by rfl) (by rfl)
  · (intro w' hx; go_simp <;> with_reducible rfl)
  simp only [Act.put, List.setIfInBounds_toArray, List.set_cons_zero, List.set_cons_succ]
  apply mixF 20 (by kernel_rfl) (by rfl) (by rfl)
  · (intro w' hx; have s1 := run_str (Sl.below hy3 hx); go_simp <;> with_reducible rfl)
  simp only [Act.put, List.setIfInBounds_toArray, List.set_cons_zero, List.set_cons_succ]
  apply mixF 21 (by kernel_rfl) (by rfl) (by rfl)
  · (intro w' hx; go_simp <;> with_reducible rfl)
  simp only [Act.put, List.setIfInBounds_toArray, List.set_cons_zero, List.set_cons_succ]
  apply mixF 22 (by kernel_rfl) (by rfl) (by rfl)
  · (intro w' hx; go_simp <;> with_reducible rfl)
  simp only [Act.put, List.setIfInBounds_toArray, List.set_cons_zero, List.set_cons_succ]
  apply mixF 23 (by kernel_rfl) (by rfl) (by rfl)
  · (intro w' hx; go_simp <;> with_reducible rfl)
  simp only [Act.put, List.setIfInBounds_toArray, List.set_cons_zero, List.set_cons_succ]
  apply mixF 24 (by kernel_rfl) (by rfl) (by rfl)
  · (intro w' hx; go_simp <;> with_reducible rfl)
  simp only [Act.put, List.setIfInBounds_toArray, List.set_cons_zero, List.set_cons_succ]
  apply mixF 25 (by kernel_rfl) (by rfl) (by rfl)
  · (intro w' hx; go_simp <;> with_reducible rfl)
  simp only [Act.put, List.setIfInBounds_toArray, List.set_cons_zero, List.set_cons_succ]
  apply mixF 26 (by kernel_rfl) (by rfl) (by rfl)
  · (intro w' hx; go_simp <;> with_reducible rfl)
  simp only [Act.put, List.setIfInBounds_toArray, List.set_cons_zero, List.set_cons_succ]
  apply mixF 27 (by kernel_rfl) (by rfl) (by rfl)
  · (intro w' hx; go_simp <;> with_reducible rfl)
  simp only [Act.put, List.setIfInBounds_toArray, List.set_cons_zero, List.set_cons_succ]
  apply mixF 28 (by kernel_rfl) (by rfl) (by rfl)
  · (intro w' hx; go_simp <;> with_reducible rfl)
  simp only [Act.put, List.setIfInBounds_toArray, List.set_cons_zero, List.set_cons_succ]
  refine mixS 29 (by kernel_rfl) (by kernel_rfl) (by rfl) (by rfl) (fun K hK => ?_)
  go_wp2_with (go_at_call 67; refine (mNext_v F2 aOne2).mono ?_; rintro e w5 ⟨rfl, he⟩)
  refine hK.out _ _ (he) ?_
  clear hK K
  try simp only [Act.put, List.setIfInBounds_toArray, List.set_cons_zero, List.set_cons_succ]
  have hx := ext_trans hx he
  have b1 := b1.ext he
  have hb1 := hb1.ext he
  have F1 := F1.ext he
  have F2 := F2.ext he
  have hy3 := hy3.ext he
  clear he
  have en : mNext [aR1, aR2] = 3 := by decide
  rw [en]
  clear en
  apply mixF 30 (by kernel_rfl) (by rfl) (by rfl)
  · (intro w' hx; go_simp <;> with_reducible rfl)
  simp only [Act.put, List.setIfInBounds_toArray, List.set_cons_zero, List.set_cons_succ]
  apply mixF 31 (by kernel_rfl) (by rfl) (by rfl)
  · (intro w' hx; go_simp <;> with_reducible rfl)
  simp only [Act.put, List.setIfInBounds_toArray, List.set_cons_zero, List.set_cons_succ]
  apply mixF 32 (by kernel_rfl) (by rfl) (by rfl)
  · (intro w' hx; go_simp <;> with_reducible rfl)
  simp only [Act.put, List.setIfInBounds_toArray, List.set_cons_zero, List.set_cons_succ]
  apply mixF 33 (by kernel_rfl) (by rfl) (by rfl)
  · (intro w' hx; obtain ⟨x0, x1, x2, x3⟩ := (b1.below hx b1.lt).c4; go_simp <;> with_reducible rfl)
  simp only [Act.put, List.setIfInBounds_toArray, List.set_cons_zero, List.set_cons_succ]
  refine mixS 34 (by kernel_rfl) (by kernel_rfl) (by rfl) (by rfl) (fun K hK => ?_)
  go_wp2_with (go_at_call 62; refine (mWrong_w _ hb1).mono ?_; rintro e w6 ⟨rfl, he⟩)
  refine hK.out _ _ (he) ?_
  clear hK K
  try simp only [Act.put, List.setIfInBounds_toArray, List.set_cons_zero, List.set_cons_succ]
  have hx := ext_trans hx he
  have b1 := b1.ext he
  have hb1 := hb1.ext he
  have F1 := F1.ext he
  have F2 := F2.ext he
  have hy3 := hy3.ext he
  clear he
  have en : mWrong ⟨1, 7, 0, [97, 98]⟩ = 0 := by decide
  rw [en]
  clear en
  obtain ⟨g1, o1, u1, rfl, hg1, d0, d1, d2, d3, hu1⟩ := F1.rec_at (i := 0) (by omega)
  obtain ⟨A5, n5, c5, rfl, hy5, HN5⟩ := hu1.form
  obtain rfl : n5 = 2 := HN5.out
  clear HN5 hu1
  have f0 := fun w' (hx : Below w6.heap.size w6 w') => (hx.cell (p := ⟨g1, o1 + 0 * 4, none⟩) hg1).trans d0
  have f1 := fun w' (hx : Below w6.heap.size w6 w') => (hx.cell (p := ⟨g1, o1 + 0 * 4 + 1, none⟩) hg1).trans d1
  have f2 := fun w' (hx : Below w6.heap.size w6 w') => (hx.cell (p := ⟨g1, o1 + 0 * 4 + 2, none⟩) hg1).trans d2
  have f3 := fun w' (hx : Below w6.heap.size w6 w') => (hx.cell (p := ⟨g1, o1 + 0 * 4 + 3, none⟩) hg1).trans d3
  apply mixF 35 (by kernel_rfl) (by rfl) (by rfl)
  · (intro w' hx; obtain ⟨x0, x1, x2, x3⟩ := (b1.below hx b1.lt).c4; have y0 := f0 w' hx; have y1 := f1 w' hx; have y2 := f2 w' hx; have y3 := f3 w' hx; simp only [Nat.zero_mul, Nat.add_zero, List.getD_cons_zero] at y0 y1 y2 y3; go_simp <;> with_reducible rfl)
  simp only [Act.put, List.setIfInBounds_toArray, List.set_cons_zero, List.set_cons_succ]
  apply mixF 36 (by kernel_rfl) (by rfl) (by rfl)
  · (intro w' hx; obtain ⟨x0, x1, x2, x3⟩ := (b1.below hx b1.lt).c4; have y0 := f0 w' hx; have y1 := f1 w' hx; have y2 := f2 w' hx; have y3 := f3 w' hx; simp only [Nat.zero_mul, Nat.add_zero, List.getD_cons_zero] at y0 y1 y2 y3; go_simp <;> with_reducible rfl)
  simp only [Act.put, List.setIfInBounds_toArray, List.set_cons_zero, List.set_cons_succ]
  apply mixF 37 (by kernel_rfl) (by rfl) (by rfl)
  · (intro w' hx; obtain ⟨x0, x1, x2, x3⟩ := (b1.below hx b1.lt).c4; have y0 := f0 w' hx; have y1 := f1 w' hx; have y2 := f2 w' hx; have y3 := f3 w' hx; simp only [Nat.zero_mul, Nat.add_zero, List.getD_cons_zero] at y0 y1 y2 y3; go_simp <;> with_reducible rfl)
  simp only [Act.put, List.setIfInBounds_toArray, List.set_cons_zero, List.set_cons_succ]
  apply mixF 38 (by kernel_rfl) (by rfl) (by rfl)
  · (intro w' hx; obtain ⟨x0, x1, x2, x3⟩ := (b1.below hx b1.lt).c4; have y0 := f0 w' hx; have y1 := f1 w' hx; have y2 := f2 w' hx; have y3 := f3 w' hx; simp only [Nat.zero_mul, Nat.add_zero, List.getD_cons_zero] at y0 y1 y2 y3; go_simp <;> with_reducible rfl)
  simp only [Act.put, List.setIfInBounds_toArray, List.set_cons_zero, List.set_cons_succ]
  apply mixF 40 (by kernel_rfl) (by rfl) (by rfl)
  · (intro w' hx; obtain ⟨x0, x1, x2, x3⟩ := (b1.below hx b1.lt).c4; have y0 := f0 w' hx; have y1 := f1 w' hx; have y2 := f2 w' hx; have y3 := f3 w' hx; simp only [Nat.zero_mul, Nat.add_zero, List.getD_cons_zero] at y0 y1 y2 y3; go_simp <;> with_reducible rfl)
  simp only [Act.put, List.setIfInBounds_toArray, List.set_cons_zero, List.set_cons_succ]
  apply mixF 41 (by kernel_rfl) (by rfl) (by rfl)
  · (intro w' hx; obtain ⟨x0, x1, x2, x3⟩ := (b1.below hx b1.lt).c4; have y0 := f0 w' hx; have y1 := f1 w' hx; have y2 := f2 w' hx; have y3 := f3 w' hx; simp only [Nat.zero_mul, Nat.add_zero, List.getD_cons_zero] at y0 y1 y2 y3; go_simp <;> with_reducible rfl)
  simp only [Act.put, List.setIfInBounds_toArray, List.set_cons_zero, List.set_cons_succ]
  apply mixF 42 (by kernel_rfl) (by rfl) (by rfl)
  · (intro w' hx; obtain ⟨x0, x1, x2, x3⟩ := (b1.below hx b1.lt).c4; have y0 := f0 w' hx; have y1 := f1 w' hx; have y2 := f2 w' hx; have y3 := f3 w' hx; simp only [Nat.zero_mul, Nat.add_zero, List.getD_cons_zero] at y0 y1 y2 y3; go_simp <;> with_reducible rfl)
  simp only [Act.put, List.setIfInBounds_toArray, List.set_cons_zero, List.set_cons_succ]
  clear d0 d1 d2 d3 f0 f1 f2 f3
  refine mixS 39 (by kernel_rfl) (by kernel_rfl) (by rfl) (by rfl) (fun K hK => ?_)
  go_wp2_with (go_at_call 73; refine (mMade_w _ hb1 (Nat.le_refl _) (by rw [blim_def]; omega) (.inl rfl)).mono ?_; rintro e w7 ⟨r7, rfl, own7, he⟩)
  refine hK.out _ _ (he) ?_
  clear hK K
  try simp only [Act.put, List.setIfInBounds_toArray, List.set_cons_zero, List.set_cons_succ]
  have hx := ext_trans hx he
  have b1 := b1.ext he
  have hb1 := hb1.ext he
  have F1 := F1.ext he
  have F2 := F2.ext he
  have hy3 := hy3.ext he
  have hy5 := hy5.ext he
  clear he
  obtain ⟨A7, n7, c7, rfl, hy7, _⟩ := (own7.recV (base := 0)).at_
  clear own7
  have em : mMade ⟨1, 7, 0, [97, 98]⟩ 1 = aR1 := by decide
  rw [em] at hy7
  refine mixS 43 (by kernel_rfl) (by kernel_rfl) (by rfl) (by rfl) (fun K hK => ?_)
  go_wp2_with (go_at_call 36; refine (refSame_w (r := mMade ⟨1, 7, 0, [97, 98]⟩ 1) (s := aR1) _ (by rw [em]; exact hy7) hy5 (Nat.le_refl _) (Nat.le_refl _)).mono ?_; rintro e w8 ⟨rfl, he⟩)
  refine hK.out _ _ he ?_
  clear hK K
  try simp only [Act.put, List.setIfInBounds_toArray, List.set_cons_zero, List.set_cons_succ]
  have hx := ext_trans hx he
  have b1 := b1.ext he
  have hb1 := hb1.ext he
  have F1 := F1.ext he
  have F2 := F2.ext he
  have hy3 := hy3.ext he
  clear he
  have en : rSame aR1 aR1 = true := by decide
  rw [en]
  clear en
  apply mixF 44 (by kernel_rfl) (by rfl) (by rfl)
  · (intro w' hx; go_simp <;> with_reducible rfl)
  simp only [Act.put, List.setIfInBounds_toArray, List.set_cons_zero, List.set_cons_succ]
  apply mixF 45 (by kernel_rfl) (by rfl) (by rfl)
  · (intro w' hx; go_simp <;> with_reducible rfl)
  simp only [Act.put, List.setIfInBounds_toArray, List.set_cons_zero, List.set_cons_succ]
  apply mixF 46 (by kernel_rfl) (by rfl) (by rfl)
  · (intro w' hx; go_simp <;> with_reducible rfl)
  simp only [Act.put, List.setIfInBounds_toArray, List.set_cons_zero, List.set_cons_succ]
  apply mixF 47 (by kernel_rfl) (by rfl) (by rfl)
  · (intro w' hx; go_simp <;> with_reducible rfl)
  simp only [Act.put, List.setIfInBounds_toArray, List.set_cons_zero, List.set_cons_succ]
  refine mixS 48 (by kernel_rfl) (by kernel_rfl) (by rfl) (by rfl) (fun K hK => ?_)
  go_wp2_with (go_at_call 69; refine (mSame_v F2 F2).mono ?_; rintro e w9 ⟨rfl, he⟩)
  refine hK.out _ _ (he) ?_
  clear hK K
  try simp only [Act.put, List.setIfInBounds_toArray, List.set_cons_zero, List.set_cons_succ]
  have hx := ext_trans hx he
  have en : mSame [aR1, aR2] [aR1, aR2] = true := by decide
  rw [en]
  apply mixF 49 (by kernel_rfl) (by rfl) (by rfl)
  · (intro w' hx; go_simp <;> with_reducible rfl)
  simp only [Act.put, List.setIfInBounds_toArray, List.set_cons_zero, List.set_cons_succ]
  apply mixF 50 (by kernel_rfl) (by rfl) (by rfl)
  · (intro w' hx; go_simp <;> with_reducible rfl)
  simp only [Act.put, List.setIfInBounds_toArray, List.set_cons_zero]
  refine mixEnd (by kernel_rfl) ?_
  go_wp2_with fail
  go_ret
  exact ⟨rfl, hx⟩
end Go.Proofs.Ytnganglmpcbcbaa

