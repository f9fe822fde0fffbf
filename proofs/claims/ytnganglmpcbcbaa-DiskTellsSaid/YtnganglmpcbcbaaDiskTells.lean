/- The statement DiskTells: the walk of the law. -/
import Derived.Test.YtnganglmpcbcbaaRight
import Derived.Test.YtnganglmpcbcbaaDskPut
import Derived.Test.YtnganglmpcbcbaaDskKeep
import Derived.Test.YtnganglmpcbcbaaDskFlush
import Derived.Test.YtnganglmpcbcbaaRefPut
import Derived.Test.YtnganglmpcbcbaaRefKeep
import Derived.Test.YtnganglmpcbcbaaRefFlush
import Derived.Test.YtnganglmpcbcbaaRefSpoil
namespace Go.Proofs.Ytnganglmpcbcbaa
open Go Go.RowKit

theorem dSame_refl (d : Dsk) : dSame d d = true := (dSame_iff d d).2 rfl

set_option maxRecDepth 100000 in
set_option maxHeartbeats 4000000 in
theorem diskTells_law (w : World) {v u : Value} {d : Dsk} {l : List UInt8} {k y : Int} (h : DskV tD w w.heap.size v d) (hu : ByT w w.heap.size u l) :
    Calls Try.prog 8 #[v, .int .i64 k, u, .int .i64 y] w fun e w' => e = .returned (.bool true) ∧ Ext w w' := by
  obtain ⟨A, n, c, E, m, e, rfl⟩ := h.parts
  obtain ⟨F, n2, c2, rfl, hF, HN2⟩ := hu.form
  have HT : Hid (tD ⊆ tD) := List.Subset.refl _
  go_enter Try.func8, Try.ntmps8
  go_wp2_with fail
  obtain ⟨W, hW⟩ : ∃ W, W = w.alloc (.cells #[.slice A n c, .slice E m e] 46) := ⟨_, rfl⟩
  rw [← hW]
  have b4 : Box W w.heap.size 46 #[.slice A n c, .slice E m e] := by rw [hW]; exact Box.new w _ _ rfl
  have hwW : Ext w W := by rw [hW]; exact ext_alloc _ _
  clear hW
  refine (new_v _).mono ?_
  rintro e1 w1 ⟨v1, rfl, o1, he1⟩
  go_wp2_with fail
  refine (refNew_v _).mono ?_
  rintro e2 w2 ⟨v2, rfl, o2, he2⟩
  go_wp2_with fail
  refine (sameDisk_v (o1.ext he2).v o2.v).mono ?_
  rintro e3 w3 ⟨rfl, he3⟩
  rw [dSame_refl]
  have hx3 := ext_trans hwW (ext_trans he1 (ext_trans he2 he3))
  have b4 := b4.ext (ext_trans he1 (ext_trans he2 he3))
  obtain ⟨x0, x1⟩ := b4.cells2
  clear o1 o2 he1 he2 he3
  go_wp2_with fail
  refine (rightDisk_v (h.ext hx3)).mono ?_
  rintro e4 w4 ⟨rfl, he4⟩
  have hx4 := ext_trans hx3 he4
  have b4 := b4.ext he4
  clear x0 x1 he4
  cases hr : dRight d with
  | false =>
    go_wp2
    go_ret
    exact ⟨rfl, hx4⟩
  | true =>
    have HR := Lib.hid (dRight_ok hr)
    clear hr
    obtain ⟨x0, x1⟩ := b4.cells2
    go_wp2_with fail
    refine (dskPut_v (h.ext hx4) HR.out.1 (hu.kept (T := []) (.ext hx4))).mono ?_
    rintro e5 w5 ⟨v5, q5, rfl, hq5, o5, he5⟩
    obtain ⟨A5, n5, c5, E5, m5, e5, rfl⟩ := o5.v.parts
    have hz5 := he5.size
    have hlt5 : w.heap.size < w5.heap.size := by have := b4.lt; omega
    have b45 := b4.ext he5
    obtain ⟨z0, z1⟩ := b45.cells2
    have Hq5 := Lib.hid hq5
    clear hq5 x0 x1
    go_wp2_with fail
    obtain ⟨w6, hw6⟩ : ∃ w6, w6 = w5.alloc (.cells #[.slice A5 n5 c5, .slice E5 m5 e5] 46) := ⟨_, rfl⟩
    rw [← hw6]
    have b9 : Box w6 w5.heap.size 46 #[.slice A5 n5 c5, .slice E5 m5 e5] := by rw [hw6]; exact Box.new w5 _ _ rfl
    have he6 : Ext w5 w6 := by rw [hw6]; exact ext_alloc _ _
    clear hw6
    have hx6 := ext_trans hx4 (ext_trans he5 he6)
    have hb6 := hx6.size
    refine (refPut_v HT.out hb6 (h.ext hx6) HR.out.1 (hu.kept (T := []) (.ext hx6))).mono ?_
    rintro e7 w7 ⟨v7, q7, rfl, hq7, o7, he7⟩
    obtain ⟨A7, n7, c7, E7, m7, e7, rfl⟩ := o7.parts
    have hqq : q7 = q5 := hq7.trans Hq5.out.symm
    subst hqq
    clear hq7
    have hqe : (q7 != q7) = false := by simp
    have hqf : (q7 == q7) = true := by simp
    have hz7 := he7.size
    have b47 := b45.ext (ext_trans he6 he7)
    have b97 := b9.ext he7
    have o57 := o5.ext (ext_trans he6 he7)
    clear z0 z1 b45 b9
    go_wp2_with fail
    obtain ⟨w8, hw8⟩ : ∃ w8, w8 = w7.alloc (.cells #[.slice A7 n7 c7, .slice E7 m7 e7] 46) := ⟨_, rfl⟩
    rw [← hw8]
    have b11 : Box w8 w7.heap.size 46 #[.slice A7 n7 c7, .slice E7 m7 e7] := by rw [hw8]; exact Box.new w7 _ _ rfl
    have he8 : Ext w7 w8 := by rw [hw8]; exact ext_alloc _ _
    clear hw8
    have hx8 := ext_trans hx6 (ext_trans he7 he8)
    have b4 := b47.ext he8
    have b9 := b97.ext he8
    have o5 := o57.ext he8
    have o7 := o7.ext he8
    clear b47 b97 o57 he5 he6 he7 he8
    refine wp_region_ext 16 [0, 1, 2, 3, 4, 5, 7, 8, 9, 10, 12, 14, 15] false rfl (by kernel_rfl) (by kernel_rfl) ?_
    obtain ⟨D, hD⟩ : ∃ D, D = w8.drew := ⟨_, rfl⟩
    rw [← hD]
    have heD : Ext w8 D := by rw [hD]; exact (Below.refl _ _).drew
    clear hD
    have hxD := ext_trans hx8 heD
    have b4 := b4.ext heD
    have b9 := b9.ext heD
    have b11 := b11.ext heD
    have o5 := o5.ext heD
    have o7 := o7.ext heD
    apply mixF 0 (by kernel_rfl) (by rfl) (by rfl)
    · (intro w' hx; obtain ⟨x0, x1⟩ := (b4.ext hx).cells2; obtain ⟨y0, y1⟩ := (b9.ext hx).cells2; obtain ⟨z0, z1⟩ := (b11.ext hx).cells2; go_simp <;> with_reducible rfl)
    simp only [Act.put, List.setIfInBounds_toArray, List.set_cons_zero, List.set_cons_succ]
    apply mixF 1 (by kernel_rfl) (by rfl) (by rfl)
    · (intro w' hx; obtain ⟨x0, x1⟩ := (b4.ext hx).cells2; obtain ⟨y0, y1⟩ := (b9.ext hx).cells2; obtain ⟨z0, z1⟩ := (b11.ext hx).cells2; go_simp <;> with_reducible rfl)
    simp only [Act.put, List.setIfInBounds_toArray, List.set_cons_zero, List.set_cons_succ]
    apply mixF 2 (by kernel_rfl) (by rfl) (by rfl)
    · (intro w' hx; obtain ⟨x0, x1⟩ := (b4.ext hx).cells2; obtain ⟨y0, y1⟩ := (b9.ext hx).cells2; obtain ⟨z0, z1⟩ := (b11.ext hx).cells2; go_simp <;> with_reducible rfl)
    simp only [Act.put, List.setIfInBounds_toArray, List.set_cons_zero, List.set_cons_succ]
    apply mixF 3 (by kernel_rfl) (by rfl) (by rfl)
    · (intro w' hx; obtain ⟨x0, x1⟩ := (b4.ext hx).cells2; obtain ⟨y0, y1⟩ := (b9.ext hx).cells2; obtain ⟨z0, z1⟩ := (b11.ext hx).cells2; go_simp <;> with_reducible rfl)
    simp only [Act.put, List.setIfInBounds_toArray, List.set_cons_zero, List.set_cons_succ]
    apply mixF 4 (by kernel_rfl) (by rfl) (by rfl)
    · (intro w' hx; obtain ⟨x0, x1⟩ := (b4.ext hx).cells2; obtain ⟨y0, y1⟩ := (b9.ext hx).cells2; obtain ⟨z0, z1⟩ := (b11.ext hx).cells2; go_simp <;> with_reducible rfl)
    simp only [Act.put, List.setIfInBounds_toArray, List.set_cons_zero, List.set_cons_succ]
    apply mixF 5 (by kernel_rfl) (by rfl) (by rfl)
    · (intro w' hx; obtain ⟨x0, x1⟩ := (b4.ext hx).cells2; obtain ⟨y0, y1⟩ := (b9.ext hx).cells2; obtain ⟨z0, z1⟩ := (b11.ext hx).cells2; go_simp <;> with_reducible rfl)
    simp only [Act.put, List.setIfInBounds_toArray, List.set_cons_zero, List.set_cons_succ]
    refine mixS 6 (by kernel_rfl) (by kernel_rfl) (by rfl) (by rfl) (fun K hK => ?_)
    go_wp2_with (go_at_call 45; refine (sameDisk_v o5.v o7).mono ?_; rintro e w1 ⟨rfl, he⟩)
    refine hK.out _ _ (he) ?_
    clear hK K
    try simp only [Act.put, List.setIfInBounds_toArray, List.set_cons_zero, List.set_cons_succ]
    rw [dSame_refl]
    have hxD := ext_trans hxD he
    have b4 := b4.ext he
    have b9 := b9.ext he
    have b11 := b11.ext he
    clear he o5 o7
    apply mixF 7 (by kernel_rfl) (by rfl) (by rfl)
    · (intro w' hx; obtain ⟨x0, x1⟩ := (b4.ext hx).cells2; obtain ⟨y0, y1⟩ := (b9.ext hx).cells2; obtain ⟨z0, z1⟩ := (b11.ext hx).cells2; go_simp <;> with_reducible rfl)
    simp only [Act.put, List.setIfInBounds_toArray, List.set_cons_zero, List.set_cons_succ]
    apply mixF 8 (by kernel_rfl) (by rfl) (by rfl)
    · (intro w' hx; obtain ⟨x0, x1⟩ := (b4.ext hx).cells2; obtain ⟨y0, y1⟩ := (b9.ext hx).cells2; obtain ⟨z0, z1⟩ := (b11.ext hx).cells2; go_simp <;> with_reducible rfl)
    simp only [Act.put, List.setIfInBounds_toArray, List.set_cons_zero, List.set_cons_succ]
    apply mixF 9 (by kernel_rfl) (by rfl) (by rfl)
    · (intro w' hx; obtain ⟨x0, x1⟩ := (b4.ext hx).cells2; obtain ⟨y0, y1⟩ := (b9.ext hx).cells2; obtain ⟨z0, z1⟩ := (b11.ext hx).cells2; go_simp <;> with_reducible rfl)
    simp only [Act.put, List.setIfInBounds_toArray, List.set_cons_zero, List.set_cons_succ]
    apply mixF 10 (by kernel_rfl) (by rfl) (by rfl)
    · (intro w' hx; obtain ⟨x0, x1⟩ := (b4.ext hx).cells2; obtain ⟨y0, y1⟩ := (b9.ext hx).cells2; obtain ⟨z0, z1⟩ := (b11.ext hx).cells2; go_simp <;> with_reducible rfl)
    simp only [Act.put, List.setIfInBounds_toArray, List.set_cons_zero, List.set_cons_succ]
    apply mixF 12 (by kernel_rfl) (by rfl) (by rfl)
    · (intro w' hx; obtain ⟨x0, x1⟩ := (b4.ext hx).cells2; obtain ⟨y0, y1⟩ := (b9.ext hx).cells2; obtain ⟨z0, z1⟩ := (b11.ext hx).cells2; go_simp <;> with_reducible rfl)
    simp only [Act.put, List.setIfInBounds_toArray, List.set_cons_zero, List.set_cons_succ]
    refine mixS 11 (by kernel_rfl) (by kernel_rfl) (by rfl) (by rfl) (fun K hK => ?_)
    go_wp2_with (go_at_call 51; refine (dskOwn_v (h.ext hxD) HR.out.1).mono ?_; rintro e w2 ⟨v9, rfl, o9, he⟩)
    refine hK.out _ _ (he) ?_
    clear hK K
    try simp only [Act.put, List.setIfInBounds_toArray, List.set_cons_zero, List.set_cons_succ]
    have hxD := ext_trans hxD he
    have b4 := b4.ext he
    have b9 := b9.ext he
    have b11 := b11.ext he
    clear he
    refine mixS 13 (by kernel_rfl) (by kernel_rfl) (by rfl) (by rfl) (fun K hK => ?_)
    go_wp2_with (go_at_call 45; refine (sameDisk_v o9.v (h.ext hxD)).mono ?_; rintro e w3 ⟨rfl, he⟩)
    refine hK.out _ _ (he) ?_
    clear hK K
    try simp only [Act.put, List.setIfInBounds_toArray, List.set_cons_zero, List.set_cons_succ]
    rw [dSame_refl]
    have hxD := ext_trans hxD he
    have b4 := b4.ext he
    have b9 := b9.ext he
    have b11 := b11.ext he
    clear he o9
    apply mixF 14 (by kernel_rfl) (by rfl) (by rfl)
    · (intro w' hx; go_simp <;> with_reducible rfl)
    simp only [Act.put, List.setIfInBounds_toArray, List.set_cons_zero, List.set_cons_succ]
    apply mixF 15 (by kernel_rfl) (by rfl) (by rfl)
    · (intro w' hx; go_simp <;> with_reducible rfl)
    simp only [Act.put, List.setIfInBounds_toArray, List.set_cons_zero, List.set_cons_succ]
    refine mixEnd (by kernel_rfl) ?_
    obtain ⟨x0, x1⟩ := b4.cells2
    go_wp2_with fail
    refine (dskGet_v (h.ext hxD) HR.out.1).mono ?_
    rintro e9 w9 ⟨v13, q13, rfl, hq13, o13, he⟩
    obtain ⟨A13, n13, c13, rfl, hy13, _⟩ := o13.form
    have Hq13 := Lib.hid hq13
    have hxD := ext_trans hxD he
    have b4 := b4.ext he
    clear he hq13 x0 x1
    obtain ⟨x0, x1⟩ := b4.cells2
    go_wp2_with fail
    refine (refGet_v (h.ext hxD) HR.out.1).mono ?_
    rintro e10 w10 ⟨v14, q14, rfl, hq14, o14, he⟩
    obtain ⟨A14, n14, c14, rfl, hy14, _⟩ := o14.form
    have hqq2 : q14 = q13 := hq14.trans Hq13.out.symm
    subst hqq2
    have hqg : (q14 == q14) = true := by simp
    have hy13 := Sl.below hy13 he
    have hz10 := he.size
    have hxD := ext_trans hxD he
    have b4 := b4.ext he
    clear he hq14 x0 x1 o13 o14
    have hbb := hxD.size
    generalize (dGet d k).1 = g at hy13 hy14
    have hgg : (g == g) = true := by simp
    go_wp2_with fail
    refine wp_region_ext 42 [0, 1, 2, 3, 4, 5, 6, 7, 8, 9, 10, 11, 12, 14, 15, 18, 19, 20, 22, 25, 26, 27, 28, 29, 30, 31, 33, 34, 35, 36, 37, 40, 41] false rfl (by kernel_rfl) (by kernel_rfl) ?_
    obtain ⟨D, hD⟩ : ∃ D, D = w10.drew := ⟨_, rfl⟩
    rw [← hD]
    have heD : Ext w10 D := by rw [hD]; exact (Below.refl _ _).drew
    clear hD
    have hxD := ext_trans hxD heD
    have b4 := b4.ext heD
    have hzD := heD.size
    have hy13 := Sl.below hy13 (heD.mono hz10)
    have hy14 := Sl.below hy14 heD
    apply mixF 0 (by kernel_rfl) (by rfl) (by rfl)
    · (intro w' hx; go_simp <;> with_reducible rfl)
    simp only [Act.put, List.setIfInBounds_toArray, List.set_cons_zero, List.set_cons_succ]
    apply mixF 1 (by kernel_rfl) (by rfl) (by rfl)
    · (intro w' hx; go_simp <;> with_reducible rfl)
    simp only [Act.put, List.setIfInBounds_toArray, List.set_cons_zero, List.set_cons_succ]
    apply mixF 2 (by kernel_rfl) (by rfl) (by rfl)
    · (intro w' hx; go_simp <;> with_reducible rfl)
    simp only [Act.put, List.setIfInBounds_toArray, List.set_cons_zero, List.set_cons_succ]
    apply mixF 3 (by kernel_rfl) (by rfl) (by rfl)
    · (intro w' hx; go_simp <;> with_reducible rfl)
    simp only [Act.put, List.setIfInBounds_toArray, List.set_cons_zero, List.set_cons_succ]
    apply mixF 4 (by kernel_rfl) (by rfl) (by rfl)
    · (intro w' hx; go_simp <;> with_reducible rfl)
    simp only [Act.put, List.setIfInBounds_toArray, List.set_cons_zero, List.set_cons_succ]
    apply mixF 5 (by kernel_rfl) (by rfl) (by rfl)
    · (intro w' hx; have q := run_str (Sl.below hy13 (hx.mono (Nat.le_trans hz10 hzD))); go_simp <;> with_reducible rfl)
    simp only [Act.put, List.setIfInBounds_toArray, List.set_cons_zero, List.set_cons_succ]
    apply mixF 6 (by kernel_rfl) (by rfl) (by rfl)
    · (intro w' hx; go_simp <;> with_reducible rfl)
    simp only [Act.put, List.setIfInBounds_toArray, List.set_cons_zero, List.set_cons_succ]
    apply mixF 7 (by kernel_rfl) (by rfl) (by rfl)
    · (intro w' hx; have q := run_str (Sl.below hy14 (hx.mono hzD)); go_simp <;> with_reducible rfl)
    simp only [Act.put, List.setIfInBounds_toArray, List.set_cons_zero, List.set_cons_succ]
    apply mixF 8 (by kernel_rfl) (by rfl) (by rfl)
    · (intro w' hx; go_simp <;> with_reducible rfl)
    simp only [Act.put, List.setIfInBounds_toArray, List.set_cons_zero, List.set_cons_succ]
    apply mixF 9 (by kernel_rfl) (by rfl) (by rfl)
    · (intro w' hx; go_simp <;> with_reducible rfl)
    simp only [Act.put, List.setIfInBounds_toArray, List.set_cons_zero, List.set_cons_succ]
    apply mixF 10 (by kernel_rfl) (by rfl) (by rfl)
    · (intro w' hx; go_simp <;> with_reducible rfl)
    simp only [Act.put, List.setIfInBounds_toArray, List.set_cons_zero, List.set_cons_succ]
    apply mixF 11 (by kernel_rfl) (by rfl) (by rfl)
    · (intro w' hx; obtain ⟨x0, x1⟩ := (b4.ext hx).cells2; go_simp <;> with_reducible rfl)
    simp only [Act.put, List.setIfInBounds_toArray, List.set_cons_zero, List.set_cons_succ]
    apply mixF 12 (by kernel_rfl) (by rfl) (by rfl)
    · (intro w' hx; obtain ⟨x0, x1⟩ := (b4.ext hx).cells2; go_simp <;> with_reducible rfl)
    simp only [Act.put, List.setIfInBounds_toArray, List.set_cons_zero, List.set_cons_succ]
    apply mixF 14 (by kernel_rfl) (by rfl) (by rfl)
    · (intro w' hx; obtain ⟨x0, x1⟩ := (b4.ext hx).cells2; go_simp <;> with_reducible rfl)
    simp only [Act.put, List.setIfInBounds_toArray, List.set_cons_zero, List.set_cons_succ]
    apply mixF 15 (by kernel_rfl) (by rfl) (by rfl)
    · (intro w' hx; obtain ⟨x0, x1⟩ := (b4.ext hx).cells2; go_simp <;> with_reducible rfl)
    simp only [Act.put, List.setIfInBounds_toArray, List.set_cons_zero, List.set_cons_succ]
    clear hy13 hy14
    refine mixS 13 (by kernel_rfl) (by kernel_rfl) (by rfl) (by rfl) (fun K hK => ?_)
    go_wp2_with (go_at_call 54; refine (dskKeep_v (h.ext hxD) HR.out.1 HR.out.2).mono ?_; rintro e w1 ⟨v77, rfl, o77, he⟩)
    refine hK.out _ _ (he) ?_
    clear hK K
    try simp only [Act.put, List.setIfInBounds_toArray, List.set_cons_zero, List.set_cons_succ]
    have hxD := ext_trans hxD he
    have b4 := b4.ext he
    have hbb := hxD.size
    clear he
    refine mixS 16 (by kernel_rfl) (by kernel_rfl) (by rfl) (by rfl) (fun K hK => ?_)
    go_wp2_with (go_at_call 55; refine (refKeep_v HT.out hbb (h.ext hxD) HR.out.1 HR.out.2).mono ?_; rintro e w2 ⟨v80, rfl, o80, he⟩)
    refine hK.out _ _ (he) ?_
    clear hK K
    try simp only [Act.put, List.setIfInBounds_toArray, List.set_cons_zero, List.set_cons_succ]
    have hxD := ext_trans hxD he
    have b4 := b4.ext he
    have o77 := o77.ext he
    clear he
    refine mixS 17 (by kernel_rfl) (by kernel_rfl) (by rfl) (by rfl) (fun K hK => ?_)
    go_wp2_with (go_at_call 45; refine (sameDisk_v o77.v o80).mono ?_; rintro e w3 ⟨rfl, he⟩)
    refine hK.out _ _ (he) ?_
    clear hK K
    try simp only [Act.put, List.setIfInBounds_toArray, List.set_cons_zero, List.set_cons_succ]
    rw [dSame_refl]
    have hxD := ext_trans hxD he
    have b4 := b4.ext he
    clear he o77 o80
    apply mixF 18 (by kernel_rfl) (by rfl) (by rfl)
    · (intro w' hx; obtain ⟨x0, x1⟩ := (b4.ext hx).cells2; go_simp <;> with_reducible rfl)
    simp only [Act.put, List.setIfInBounds_toArray, List.set_cons_zero, List.set_cons_succ]
    apply mixF 19 (by kernel_rfl) (by rfl) (by rfl)
    · (intro w' hx; obtain ⟨x0, x1⟩ := (b4.ext hx).cells2; go_simp <;> with_reducible rfl)
    simp only [Act.put, List.setIfInBounds_toArray, List.set_cons_zero, List.set_cons_succ]
    apply mixF 20 (by kernel_rfl) (by rfl) (by rfl)
    · (intro w' hx; obtain ⟨x0, x1⟩ := (b4.ext hx).cells2; go_simp <;> with_reducible rfl)
    simp only [Act.put, List.setIfInBounds_toArray, List.set_cons_zero, List.set_cons_succ]
    apply mixF 22 (by kernel_rfl) (by rfl) (by rfl)
    · (intro w' hx; obtain ⟨x0, x1⟩ := (b4.ext hx).cells2; go_simp <;> with_reducible rfl)
    simp only [Act.put, List.setIfInBounds_toArray, List.set_cons_zero, List.set_cons_succ]
    refine mixS 21 (by kernel_rfl) (by kernel_rfl) (by rfl) (by rfl) (fun K hK => ?_)
    go_wp2_with (go_at_call 56; refine (dskFlush_v (h.ext hxD) HR.out.1 HR.out.2).mono ?_; rintro e w4 ⟨v85, rfl, o77, he⟩)
    refine hK.out _ _ (he) ?_
    clear hK K
    try simp only [Act.put, List.setIfInBounds_toArray, List.set_cons_zero, List.set_cons_succ]
    have hxD := ext_trans hxD he
    have b4 := b4.ext he
    have hbb := hxD.size
    clear he
    refine mixS 23 (by kernel_rfl) (by kernel_rfl) (by rfl) (by rfl) (fun K hK => ?_)
    go_wp2_with (go_at_call 57; refine (refFlush_v HT.out hbb (h.ext hxD) HR.out.1 HR.out.2).mono ?_; rintro e w5 ⟨v87, rfl, o80, he⟩)
    refine hK.out _ _ (he) ?_
    clear hK K
    try simp only [Act.put, List.setIfInBounds_toArray, List.set_cons_zero, List.set_cons_succ]
    have hxD := ext_trans hxD he
    have b4 := b4.ext he
    have o77 := o77.ext he
    clear he
    refine mixS 24 (by kernel_rfl) (by kernel_rfl) (by rfl) (by rfl) (fun K hK => ?_)
    go_wp2_with (go_at_call 45; refine (sameDisk_v o77.v o80).mono ?_; rintro e w6 ⟨rfl, he⟩)
    refine hK.out _ _ (he) ?_
    clear hK K
    try simp only [Act.put, List.setIfInBounds_toArray, List.set_cons_zero, List.set_cons_succ]
    rw [dSame_refl]
    have hxD := ext_trans hxD he
    have b4 := b4.ext he
    clear he o77 o80
    apply mixF 25 (by kernel_rfl) (by rfl) (by rfl)
    · (intro w' hx; obtain ⟨x0, x1⟩ := (b4.ext hx).cells2; go_simp <;> with_reducible rfl)
    simp only [Act.put, List.setIfInBounds_toArray, List.set_cons_zero, List.set_cons_succ]
    apply mixF 26 (by kernel_rfl) (by rfl) (by rfl)
    · (intro w' hx; obtain ⟨x0, x1⟩ := (b4.ext hx).cells2; go_simp <;> with_reducible rfl)
    simp only [Act.put, List.setIfInBounds_toArray, List.set_cons_zero, List.set_cons_succ]
    apply mixF 27 (by kernel_rfl) (by rfl) (by rfl)
    · (intro w' hx; obtain ⟨x0, x1⟩ := (b4.ext hx).cells2; go_simp <;> with_reducible rfl)
    simp only [Act.put, List.setIfInBounds_toArray, List.set_cons_zero, List.set_cons_succ]
    apply mixF 28 (by kernel_rfl) (by rfl) (by rfl)
    · (intro w' hx; obtain ⟨x0, x1⟩ := (b4.ext hx).cells2; go_simp <;> with_reducible rfl)
    simp only [Act.put, List.setIfInBounds_toArray, List.set_cons_zero, List.set_cons_succ]
    apply mixF 29 (by kernel_rfl) (by rfl) (by rfl)
    · (intro w' hx; obtain ⟨x0, x1⟩ := (b4.ext hx).cells2; go_simp <;> with_reducible rfl)
    simp only [Act.put, List.setIfInBounds_toArray, List.set_cons_zero, List.set_cons_succ]
    apply mixF 30 (by kernel_rfl) (by rfl) (by rfl)
    · (intro w' hx; obtain ⟨x0, x1⟩ := (b4.ext hx).cells2; go_simp <;> with_reducible rfl)
    simp only [Act.put, List.setIfInBounds_toArray, List.set_cons_zero, List.set_cons_succ]
    apply mixF 31 (by kernel_rfl) (by rfl) (by rfl)
    · (intro w' hx; obtain ⟨x0, x1⟩ := (b4.ext hx).cells2; go_simp <;> with_reducible rfl)
    simp only [Act.put, List.setIfInBounds_toArray, List.set_cons_zero, List.set_cons_succ]
    apply mixF 33 (by kernel_rfl) (by rfl) (by rfl)
    · (intro w' hx; obtain ⟨x0, x1⟩ := (b4.ext hx).cells2; go_simp <;> with_reducible rfl)
    simp only [Act.put, List.setIfInBounds_toArray, List.set_cons_zero, List.set_cons_succ]
    apply mixF 34 (by kernel_rfl) (by rfl) (by rfl)
    · (intro w' hx; obtain ⟨x0, x1⟩ := (b4.ext hx).cells2; go_simp <;> with_reducible rfl)
    simp only [Act.put, List.setIfInBounds_toArray, List.set_cons_zero, List.set_cons_succ]
    apply mixF 35 (by kernel_rfl) (by rfl) (by rfl)
    · (intro w' hx; obtain ⟨x0, x1⟩ := (b4.ext hx).cells2; go_simp <;> with_reducible rfl)
    simp only [Act.put, List.setIfInBounds_toArray, List.set_cons_zero, List.set_cons_succ]
    apply mixF 36 (by kernel_rfl) (by rfl) (by rfl)
    · (intro w' hx; obtain ⟨x0, x1⟩ := (b4.ext hx).cells2; go_simp <;> with_reducible rfl)
    simp only [Act.put, List.setIfInBounds_toArray, List.set_cons_zero, List.set_cons_succ]
    apply mixF 37 (by kernel_rfl) (by rfl) (by rfl)
    · (intro w' hx; obtain ⟨x0, x1⟩ := (b4.ext hx).cells2; go_simp <;> with_reducible rfl)
    simp only [Act.put, List.setIfInBounds_toArray, List.set_cons_zero, List.set_cons_succ]
    refine mixS 32 (by kernel_rfl) (by kernel_rfl) (by rfl) (by rfl) (fun K hK => ?_)
    go_wp2_with (go_at_call 58; refine (dskSpoil_v (h.ext hxD) HR.out.1).mono ?_; rintro e w7 ⟨v96, rfl, o77, he⟩)
    refine hK.out _ _ (he) ?_
    clear hK K
    try simp only [Act.put, List.setIfInBounds_toArray, List.set_cons_zero, List.set_cons_succ]
    have hxD := ext_trans hxD he
    have b4 := b4.ext he
    have hbb := hxD.size
    clear he
    refine mixS 38 (by kernel_rfl) (by kernel_rfl) (by rfl) (by rfl) (fun K hK => ?_)
    go_wp2_with (go_at_call 59; refine (refSpoil_v HT.out hbb (h.ext hxD) HR.out.1).mono ?_; rintro e w8 ⟨v102, rfl, o80, he⟩)
    refine hK.out _ _ (he) ?_
    clear hK K
    try simp only [Act.put, List.setIfInBounds_toArray, List.set_cons_zero, List.set_cons_succ]
    have hxD := ext_trans hxD he
    have b4 := b4.ext he
    have o77 := o77.ext he
    clear he
    refine mixS 39 (by kernel_rfl) (by kernel_rfl) (by rfl) (by rfl) (fun K hK => ?_)
    go_wp2_with (go_at_call 45; refine (sameDisk_v o77.v o80).mono ?_; rintro e w9 ⟨rfl, he⟩)
    refine hK.out _ _ (he) ?_
    clear hK K
    try simp only [Act.put, List.setIfInBounds_toArray, List.set_cons_zero, List.set_cons_succ]
    rw [dSame_refl]
    have hxD := ext_trans hxD he
    clear he o77 o80
    apply mixF 40 (by kernel_rfl) (by rfl) (by rfl)
    · (intro w' hx; go_simp <;> with_reducible rfl)
    simp only [Act.put, List.setIfInBounds_toArray, List.set_cons_zero, List.set_cons_succ]
    apply mixF 41 (by kernel_rfl) (by rfl) (by rfl)
    · (intro w' hx; go_simp <;> with_reducible rfl)
    simp only [Act.put, List.setIfInBounds_toArray, List.set_cons_zero, List.set_cons_succ]
    refine mixEnd (by kernel_rfl) ?_
    go_wp2
    go_ret
    exact ⟨rfl, hxD⟩

end Go.Proofs.Ytnganglmpcbcbaa
