/- The statement PlayFits: the walk of the law. -/
import Derived.Test.YtmcgbdbhpnplmaaGreatAlive11
import Derived.Test.YtmcgbdbhpnplmaaGreatSt7
namespace Go.Proofs.YtmcgbdbhpnplmaaGreat
open Go Go.RowKit
theorem mount_is {s : Sto} {n m : Int} {d : Ded} : (yDo s ⟨6, n, m, d⟩).1 = sMount s.disk := by
 unfold yDo
 rw [if_neg (by show ¬ (6 : Int) = 1; omega), if_neg (by show ¬ (6 : Int) = 2; omega), if_neg (by show ¬ (6 : Int) = 3; omega), if_neg (by show ¬ (6 : Int) = 4; omega), if_neg (by show ¬ (6 : Int) = 5; omega), if_pos rfl]
set_option maxRecDepth 100000 in
set_option maxHeartbeats 4000000 in
theorem playFits_law (w : World) {v xv : Value} {l : List Stp} {x : Stp} (hl : Row eStp [] w w.heap.size v l) (hs : StpV w w.heap.size xv x) :
  Calls Tryz.prog 9 #[v, xv] w fun e w' => e = .returned (.bool true) ∧ Ext w w' := by
 obtain ⟨A, n, c, rfl, _, _, _⟩ := hl.form
 obtain ⟨A0, n0, c0, rfl, _, _⟩ := hs.at_
 go_enter Tryz.func9, Tryz.ntmps9
 go_upto_region 1 with (fail)
 generalize hwn : World.alloc w _ = w0
 have hx : Ext w w0 := by rw [← hwn]; exact ext_alloc _ _
 have b3 : Box w0 w.heap.size 67 #[.int .i64 x.kind, .int .i64 x.n, .int .i64 x.m, .int .i64 x.deed.kind, .int .i64 x.deed.key, .int .i64 x.deed.n, .slice A0 n0 c0] := by rw [← hwn]; exact Box.new _ _ _ rfl
 clear hwn
 have hl := hl.ext hx
 have hs := hs.ext hx
 obtain ⟨gd, hgd⟩ : ∃ g, g = w.heap.size := ⟨_, rfl⟩
 rw [show Box w0 w.heap.size 67 #[.int .i64 x.kind, .int .i64 x.n, .int .i64 x.m, .int .i64 x.deed.kind, .int .i64 x.deed.key, .int .i64 x.deed.n, .slice A0 n0 c0] ↔ Box w0 gd 67 #[.int .i64 x.kind, .int .i64 x.n, .int .i64 x.m, .int .i64 x.deed.kind, .int .i64 x.deed.key, .int .i64 x.deed.n, .slice A0 n0 c0] by rw [hgd]] at b3
 rw [← hgd]
 clear hgd
 go_wp2_with fail
 refine (alive11_w _).mono ?_
 rintro e0 w1 ⟨rfl, he⟩
 have hx := ext_trans hx he
 have hl := hl.ext he
 have hs := hs.ext he
 have b3 := b3.ext he
 clear he
 go_wp2_with fail
 refine (refGently_v hl).mono ?_
 rintro e1 w2 ⟨v1, rfl, s1, he⟩
 have hx := ext_trans hx he
 have hs := hs.ext he
 have b3 := b3.ext he
 clear he
 clear hl
 have HG := Lib.hid (gTo_tight new_tight (l.take 100))
 generalize gTo sNew (l.take 100) = s at s1 HG
 obtain ⟨A1, n1, c1, E1, m1, e1, F1, k1, f1, rfl, _, _, _, _, _, _, _, _⟩ := s1.form
 go_upto_region 4 with (fail)
 generalize hwn : World.alloc w2 _ = w3
 have he : Ext w2 w3 := by rw [← hwn]; exact ext_alloc _ _
 have b5 : Box w3 w2.heap.size 33 #[.slice A1 n1 c1, .slice E1 m1 e1, .slice F1 k1 f1, .int .i64 s.next] := by rw [← hwn]; exact Box.new _ _ _ (by simp)
 clear hwn
 have hx := ext_trans hx he
 have s1 := s1.ext he
 have hs := hs.ext he
 have b3 := b3.ext he
 clear he
 obtain ⟨g5, hgk⟩ : ∃ g, g = w2.heap.size := ⟨_, rfl⟩
 rw [← hgk] at b5 ⊢
 clear hgk
 obtain ⟨b3_0, b3_1, b3_2, b3_3, b3_4, b3_5, b3_6⟩ := b3.c7
 have b3_z := b3.free
 have b3_l := b3.lt
 obtain ⟨b5_0, b5_1, b5_2, b5_3⟩ := b5.c4
 have b5_z := b5.free
 have b5_l := b5.lt
 go_wp2_with fail
 refine (refGentle_v s1 HG.out.good hs).mono ?_
 rintro e3 w4 ⟨rfl, he⟩
 try clear b3_0 b3_1 b3_2 b3_3 b3_4 b3_5 b3_6 b3_z b3_l b5_0 b5_1 b5_2 b5_3 b5_z b5_l
 have hx := ext_trans hx he
 have s1 := s1.ext he
 have hs := hs.ext he
 have b3 := b3.ext he
 have b5 := b5.ext he
 clear he
 cases hgt : gentle s x with
 | false =>
  clear hgt
  go_wp2_with fail
  go_ret
  exact ⟨rfl, hx⟩
 | true =>
  have HY := Lib.hid (step_tight HG.out hgt).1
  clear hgt
  obtain ⟨b3_0, b3_1, b3_2, b3_3, b3_4, b3_5, b3_6⟩ := b3.c7
  have b3_z := b3.free
  have b3_l := b3.lt
  obtain ⟨b5_0, b5_1, b5_2, b5_3⟩ := b5.c4
  have b5_z := b5.free
  have b5_l := b5.lt
  go_wp2_with fail
  refine (playDo_v s1 HG.out.good hs).mono ?_
  rintro e5 w6 ⟨v6, rfl, s6, he⟩
  try clear b3_0 b3_1 b3_2 b3_3 b3_4 b3_5 b3_6 b3_z b3_l b5_0 b5_1 b5_2 b5_3 b5_z b5_l
  have hx := ext_trans hx he
  have b3 := b3.ext he
  have b5 := b5.ext he
  clear he
  clear s1 hs b3 b5
  generalize (yDo s x).1 = y at s6 HY
  generalize (yDo s x).2.1 = nn
  generalize (yDo s x).2.2 = qq
  obtain ⟨A6, n6, c6, E6, m6, e6, F6, k6, f6, rfl, d6, i6, HN, _, _, _, _, _⟩ := s6.form
  obtain rfl : n6 = 12 := HN.out.trans HY.out.good.disk.len
  clear HN
  go_upto_region 7 with (fail)
  generalize hwn : World.alloc w6 _ = w7
  have he : Ext w6 w7 := by rw [← hwn]; exact ext_alloc _ _
  have b6 : Box w7 w6.heap.size 33 #[.slice A6 12 c6, .slice E6 m6 e6, .slice F6 k6 f6, .int .i64 y.next] := by rw [← hwn]; exact Box.new _ _ _ (by simp)
  clear hwn
  have hx := ext_trans hx he
  have s6 := s6.ext he
  have d6 := d6.ext he
  have i6 := i6.ext he
  clear he
  obtain ⟨g6, hgk⟩ : ∃ g, g = w6.heap.size := ⟨_, rfl⟩
  rw [← hgk] at b6 ⊢
  clear hgk
  obtain ⟨b6_0, b6_1, b6_2, b6_3⟩ := b6.c4
  have b6_z := b6.free
  have b6_l := b6.lt
  go_wp2_with fail
  refine (playDo_v (x := ⟨6, 0, 0, ⟨0, 0, 0, []⟩⟩) s6 HY.out.good ⟨_, rfl, ByT.nil _ 0⟩).mono ?_
  rintro e8 w8 ⟨v8, rfl, s8, he⟩
  try clear b6_0 b6_1 b6_2 b6_3 b6_z b6_l
  have hx := ext_trans hx he
  have d6 := d6.ext he
  have i6 := i6.ext he
  have b6 := b6.ext he
  clear he
  rw [mount_is] at s8
  generalize (yDo y ⟨6, 0, 0, ⟨0, 0, 0, []⟩⟩).2.1 = nn2
  generalize (yDo y ⟨6, 0, 0, ⟨0, 0, 0, []⟩⟩).2.2 = qq2
  obtain ⟨A8, n8, c8, E8, m8, e8, F8, k8, f8, rfl, _, i8, _, _, _, _, _, _⟩ := s8.form
  go_upto_region 8 with (fail)
  generalize hwn : World.alloc w8 _ = w9
  have he : Ext w8 w9 := by rw [← hwn]; exact ext_alloc _ _
  have b9 : Box w9 w8.heap.size 33 #[.slice A8 n8 c8, .slice E8 m8 e8, .slice F8 k8 f8, .int .i64 (sMount y.disk).next] := by rw [← hwn]; exact Box.new _ _ _ (by simp)
  clear hwn
  have hx := ext_trans hx he
  have d6 := d6.ext he
  have i6 := i6.ext he
  have i8 := i8.ext he
  have b6 := b6.ext he
  clear he
  obtain ⟨g9, hgk⟩ : ∃ g, g = w8.heap.size := ⟨_, rfl⟩
  rw [← hgk] at b9 ⊢
  clear hgk
  clear s6 s8
  have HFI := Lib.hid (play_fits HY.out)
  rw [HFI.out.2.2] at i8
  have HFD := Lib.hid (good_fine HY.out.good.disk)
  have HTW := Lib.hid (show (tTo y.disk 6).length = 0 by rw [← fTwice12 HY.out.good.disk, HFI.out.2.1]; rfl)
  have HSC := Lib.hid HFI.out.1.symm
  have hd0 : Ext w9 w9.drew := (Below.refl _ _).drew
  have hx := ext_trans hx hd0
  have d6 := d6.ext hd0
  have i6 := i6.ext hd0
  have i8 := i8.ext hd0
  have b6 := b6.ext hd0
  have b9 := b9.ext hd0
  clear hd0 HFI
  refine wp_region_ext 28 [0, 1, 2, 3, 4, 5, 6, 7, 8, 9, 12, 13, 14, 15, 17, 18, 19, 20, 21, 22, 23, 24, 26, 27] false rfl (by kernel_rfl) (by kernel_rfl) ?_
  generalize w9.drew = D at hx d6 i6 i8 b6 b9 ⊢
  apply mixF 0 (by kernel_rfl) (by rfl) (by rfl)
  ·(intro w' hx; obtain ⟨x0, x1, x2, x3⟩ := (b6.ext hx).c4; go_simp <;> with_reducible rfl)
  simp only [pA, pB, pC, pD]
  apply mixF 1 (by kernel_rfl) (by rfl) (by rfl)
  ·(intro w' hx; obtain ⟨x0, x1, x2, x3⟩ := (b6.ext hx).c4; go_simp <;> with_reducible rfl)
  simp only [pA, pB, pC, pD]
  apply mixF 2 (by kernel_rfl) (by rfl) (by rfl)
  ·(intro w' hx; obtain ⟨x0, x1, x2, x3⟩ := (b6.ext hx).c4; go_simp <;> with_reducible rfl)
  simp only [pA, pB, pC, pD]
  apply mixF 3 (by kernel_rfl) (by rfl) (by rfl)
  ·(intro w' hx; obtain ⟨x0, x1, x2, x3⟩ := (b6.ext hx).c4; go_simp <;> with_reducible rfl)
  simp only [pA, pB, pC, pD]
  apply mixF 4 (by kernel_rfl) (by rfl) (by rfl)
  ·(intro w' hx; obtain ⟨x0, x1, x2, x3⟩ := (b6.ext hx).c4; go_simp <;> with_reducible rfl)
  simp only [pA, pB, pC, pD]
  apply mixF 5 (by kernel_rfl) (by rfl) (by rfl)
  ·(intro w' hx; obtain ⟨x0, x1, x2, x3⟩ := (b6.ext hx).c4; go_simp <;> with_reducible rfl)
  simp only [pA, pB, pC, pD]
  apply mixF 6 (by kernel_rfl) (by rfl) (by rfl)
  ·(intro w' hx; obtain ⟨x0, x1, x2, x3⟩ := (b6.ext hx).c4; go_simp <;> with_reducible rfl)
  simp only [pA, pB, pC, pD]
  apply mixF 7 (by kernel_rfl) (by rfl) (by rfl)
  ·(intro w' hx; obtain ⟨x0, x1, x2, x3⟩ := (b6.ext hx).c4; go_simp <;> with_reducible rfl)
  simp only [pA, pB, pC, pD]
  apply mixF 8 (by kernel_rfl) (by rfl) (by rfl)
  ·(intro w' hx; obtain ⟨x0, x1, x2, x3⟩ := (b6.ext hx).c4; go_simp <;> with_reducible rfl)
  simp only [pA, pB, pC, pD]
  apply mixF 9 (by kernel_rfl) (by rfl) (by rfl)
  ·(intro w' hx; obtain ⟨x0, x1, x2, x3⟩ := (b6.ext hx).c4; go_simp <;> with_reducible rfl)
  simp only [pA, pB, pC, pD]
  refine mixS 10 (by kernel_rfl) (by kernel_rfl) (by rfl) (by rfl) (fun K hK => ?_)
  go_wp2_with (go_at_call 43; refine (refScan_v d6 HFD.out.ok).mono ?_; rintro e w10 ⟨v10, rfl, o10, he⟩)
  refine hK.out _ _ (he) ?_
  clear hK K
  try simp only [pA, pB, pC, pD]
  have r10 := o10.row (T := [54]) (base := 0) (base' := 0) (by decide) (Nat.zero_le _)
  rw [HSC.out] at r10
  have hx := ext_trans hx he
  have d6 := d6.ext he
  have i6 := i6.ext he
  have i8 := i8.ext he
  have b6 := b6.ext he
  have b9 := b9.ext he
  clear he o10
  refine mixS 11 (by kernel_rfl) (by kernel_rfl) (by rfl) (by rfl) (fun K hK => ?_)
  go_wp2_with (go_at_call 42; refine (sameEnts_v i6 r10).mono ?_; rintro e w11 ⟨rfl, he⟩)
  refine hK.out _ _ (he) ?_
  clear hK K
  try simp only [pA, pB, pC, pD]
  rw [esSame_id]
  have hx := ext_trans hx he
  have d6 := d6.ext he
  have i6 := i6.ext he
  have i8 := i8.ext he
  have b6 := b6.ext he
  have b9 := b9.ext he
  clear he r10
  apply mixF 12 (by kernel_rfl) (by rfl) (by rfl)
  ·(intro w' hx; obtain ⟨x0, x1, x2, x3⟩ := (b6.ext hx).c4; go_simp <;> with_reducible rfl)
  simp only [pA, pB, pC, pD]
  apply mixF 13 (by kernel_rfl) (by rfl) (by rfl)
  ·(intro w' hx; obtain ⟨x0, x1, x2, x3⟩ := (b6.ext hx).c4; go_simp <;> with_reducible rfl)
  simp only [pA, pB, pC, pD]
  apply mixF 14 (by kernel_rfl) (by rfl) (by rfl)
  ·(intro w' hx; obtain ⟨x0, x1, x2, x3⟩ := (b6.ext hx).c4; go_simp <;> with_reducible rfl)
  simp only [pA, pB, pC, pD]
  apply mixF 15 (by kernel_rfl) (by rfl) (by rfl)
  ·(intro w' hx; obtain ⟨x0, x1, x2, x3⟩ := (b6.ext hx).c4; go_simp <;> with_reducible rfl)
  simp only [pA, pB, pC, pD]
  refine mixS 16 (by kernel_rfl) (by kernel_rfl) (by rfl) (by rfl) (fun K hK => ?_)
  go_wp2_with (go_at_call 44; refine (refTwice_v d6 HFD.out.ok).mono ?_; rintro e w12 ⟨v12, rfl, o12, he⟩)
  refine hK.out _ _ (he) ?_
  clear hK K
  try simp only [pA, pB, pC, pD]
  obtain ⟨A12, n12, c12, rfl, _, _, HN12⟩ := o12.form
  obtain rfl : n12 = 0 := HN12.out.trans HTW.out
  clear o12 HN12
  have hx := ext_trans hx he
  have i6 := i6.ext he
  have i8 := i8.ext he
  have b6 := b6.ext he
  have b9 := b9.ext he
  clear he d6
  apply mixF 17 (by kernel_rfl) (by rfl) (by rfl)
  ·(intro w' hx; obtain ⟨x0, x1, x2, x3⟩ := (b6.ext hx).c4; obtain ⟨y0, y1, y2, y3⟩ := (b9.ext hx).c4; go_simp <;> with_reducible rfl)
  simp only [pA, pB, pC, pD]
  apply mixF 18 (by kernel_rfl) (by rfl) (by rfl)
  ·(intro w' hx; obtain ⟨x0, x1, x2, x3⟩ := (b6.ext hx).c4; obtain ⟨y0, y1, y2, y3⟩ := (b9.ext hx).c4; go_simp <;> with_reducible rfl)
  simp only [pA, pB, pC, pD]
  apply mixF 19 (by kernel_rfl) (by rfl) (by rfl)
  ·(intro w' hx; obtain ⟨x0, x1, x2, x3⟩ := (b6.ext hx).c4; obtain ⟨y0, y1, y2, y3⟩ := (b9.ext hx).c4; go_simp <;> with_reducible rfl)
  simp only [pA, pB, pC, pD]
  apply mixF 20 (by kernel_rfl) (by rfl) (by rfl)
  ·(intro w' hx; obtain ⟨x0, x1, x2, x3⟩ := (b6.ext hx).c4; obtain ⟨y0, y1, y2, y3⟩ := (b9.ext hx).c4; go_simp <;> with_reducible rfl)
  simp only [pA, pB, pC, pD]
  apply mixF 21 (by kernel_rfl) (by rfl) (by rfl)
  ·(intro w' hx; obtain ⟨x0, x1, x2, x3⟩ := (b6.ext hx).c4; obtain ⟨y0, y1, y2, y3⟩ := (b9.ext hx).c4; go_simp <;> with_reducible rfl)
  simp only [pA, pB, pC, pD]
  apply mixF 22 (by kernel_rfl) (by rfl) (by rfl)
  ·(intro w' hx; obtain ⟨x0, x1, x2, x3⟩ := (b6.ext hx).c4; obtain ⟨y0, y1, y2, y3⟩ := (b9.ext hx).c4; go_simp <;> with_reducible rfl)
  simp only [pA, pB, pC, pD]
  apply mixF 23 (by kernel_rfl) (by rfl) (by rfl)
  ·(intro w' hx; obtain ⟨x0, x1, x2, x3⟩ := (b6.ext hx).c4; obtain ⟨y0, y1, y2, y3⟩ := (b9.ext hx).c4; go_simp <;> with_reducible rfl)
  simp only [pA, pB, pC, pD]
  apply mixF 24 (by kernel_rfl) (by rfl) (by rfl)
  ·(intro w' hx; obtain ⟨x0, x1, x2, x3⟩ := (b6.ext hx).c4; obtain ⟨y0, y1, y2, y3⟩ := (b9.ext hx).c4; go_simp <;> with_reducible rfl)
  simp only [pA, pB, pC, pD]
  refine mixS 25 (by kernel_rfl) (by kernel_rfl) (by rfl) (by rfl) (fun K hK => ?_)
  go_wp2_with (go_at_call 42; refine (sameEnts_v i6 i8).mono ?_; rintro e w13 ⟨rfl, he⟩)
  refine hK.out _ _ (he) ?_
  clear hK K
  try simp only [pA, pB, pC, pD]
  rw [esSame_id]
  have hx := ext_trans hx he
  clear he i6 i8
  apply mixF 26 (by kernel_rfl) (by rfl) (by rfl)
  ·(intro w' hx; go_simp <;> with_reducible rfl)
  simp only [pA, pB, pC, pD]
  apply mixF 27 (by kernel_rfl) (by rfl) (by rfl)
  ·(intro w' hx; go_simp <;> with_reducible rfl)
  simp only [pA, pB, pC, pD]
  refine mixEnd (by kernel_rfl) ?_
  go_wp2_with fail
  go_ret
  exact ⟨rfl, hx⟩
end Go.Proofs.YtmcgbdbhpnplmaaGreat
