/- The statement StoreModel: the walk of the law. -/
import Derived.Test.YtmcgbdbhpnplmaaGreatAlive8
import Derived.Test.YtmcgbdbhpnplmaaGreatSt7
namespace Go.Proofs.YtmcgbdbhpnplmaaGreat
open Go Go.RowKit
theorem mount_sto {d : Dsk} (h : dGood d) : StoF (sMount d) := (mount_good h.even).fine
set_option maxRecDepth 100000 in
set_option maxHeartbeats 4000000 in
theorem storeModel_law (w : World) {v dv : Value} {l : List Stp} {d : Ded} (hl : Row eStp [] w w.heap.size v l) (hd : DedV w w.heap.size dv d) :
  Calls Tryz.prog 4 #[v, dv] w fun e w' => e = .returned (.bool true) ∧ Ext w w' := by
 obtain ⟨A, n, c, rfl, _, _, _⟩ := hl.form
 obtain ⟨A0, n0, c0, rfl, _, _⟩ := hd.at_
 go_enter Tryz.func4, Tryz.ntmps4
 go_upto_region 1 with (fail)
 generalize hwn : World.alloc w _ = w0
 have hx : Ext w w0 := by rw [← hwn]; exact ext_alloc _ _
 have b3 : Box w0 w.heap.size 25 #[.int .i64 d.kind, .int .i64 d.key, .int .i64 d.n, .slice A0 n0 c0] := by rw [← hwn]; exact Box.new _ _ _ rfl
 clear hwn
 have hl := hl.ext hx
 have hd := hd.ext hx
 obtain ⟨gd, hgd⟩ : ∃ g, g = w.heap.size := ⟨_, rfl⟩
 rw [show Box w0 w.heap.size 25 #[.int .i64 d.kind, .int .i64 d.key, .int .i64 d.n, .slice A0 n0 c0] ↔ Box w0 gd 25 #[.int .i64 d.kind, .int .i64 d.key, .int .i64 d.n, .slice A0 n0 c0] by rw [hgd]] at b3
 rw [← hgd]
 clear hgd
 go_wp2_with fail
 refine (alive8_w _).mono ?_
 rintro e0 w1 ⟨rfl, he⟩
 have hx := ext_trans hx he
 have hl := hl.ext he
 have hd := hd.ext he
 have b3 := b3.ext he
 clear he
 go_wp2_with fail
 refine (refGently_v hl).mono ?_
 rintro e1 w2 ⟨v1, rfl, s1, he⟩
 have hx := ext_trans hx he
 have hd := hd.ext he
 have b3 := b3.ext he
 clear he
 clear hl
 have HG := Lib.hid (gTo_tight new_tight (l.take 100))
 generalize gTo sNew (l.take 100) = s at s1 HG
 obtain ⟨A1, n1, c1, E1, m1, e1, F1, k1, f1, rfl, _, _, _, _, _, _, _, _⟩ := s1.form
 go_upto_region 4 with (fail)
 generalize hwn : World.alloc w2 _ = w3
 have he : Ext w2 w3 := by rw [← hwn]; exact ext_alloc _ _
 have b5 : Box w3 w2.heap.size 33 #[.slice A1 n1 c1, .slice E1 m1 e1, .slice F1 k1 f1, .int .i64 s.next] := by rw [← hwn]; exact Box.new _ _ _ (by simp)
 clear hwn
 have hx := ext_trans hx he
 have s1 := s1.ext he
 have hd := hd.ext he
 have b3 := b3.ext he
 clear he
 obtain ⟨g5, hgk⟩ : ∃ g, g = w2.heap.size := ⟨_, rfl⟩
 rw [← hgk] at b5 ⊢
 clear hgk
 obtain ⟨b3_0, b3_1, b3_2, b3_3⟩ := b3.c4
 have b3_z := b3.free
 have b3_l := b3.lt
 go_wp2_with fail
 refine (rWrongDeed_v hd).mono ?_
 rintro e3 w4 ⟨rfl, he⟩
 try clear b3_0 b3_1 b3_2 b3_3 b3_z b3_l
 have hx := ext_trans hx he
 have s1 := s1.ext he
 have hd := hd.ext he
 have b3 := b3.ext he
 have b5 := b5.ext he
 clear he
 by_cases hw : mWrong d = 0
 ·have HW := Lib.hid hw
  have q : (mWrong d != 0) = false := by simpa using hw
  clear hw
  go_upto_region 7 with (fail)
  clear q
  have he : Ext w4 w4.drew := (Below.refl _ _).drew
  have hx := ext_trans hx he
  have s1 := s1.ext he
  have hd := hd.ext he
  have b3 := b3.ext he
  have b5 := b5.ext he
  clear he
  refine wp_region_ext 11 [0, 2, 4, 5, 6, 7, 8, 9, 10] false rfl (by kernel_rfl) (by kernel_rfl) ?_
  generalize w4.drew = D at hx s1 hd b3 b5 ⊢
  apply mixF 0 (by kernel_rfl) (by rfl) (by rfl)
  ·(intro w' hx; obtain ⟨x0, x1, x2, x3⟩ := (b5.ext hx).c4; obtain ⟨y0, y1, y2, y3⟩ := (b3.ext hx).c4; go_simp <;> with_reducible rfl)
  simp only [pA, pB, pC, pD]
  apply mixF 2 (by kernel_rfl) (by rfl) (by rfl)
  ·(intro w' hx; obtain ⟨x0, x1, x2, x3⟩ := (b5.ext hx).c4; obtain ⟨y0, y1, y2, y3⟩ := (b3.ext hx).c4; go_simp <;> with_reducible rfl)
  simp only [pA, pB, pC, pD]
  refine mixS 1 (by kernel_rfl) (by kernel_rfl) (by rfl) (by rfl) (fun K hK => ?_)
  go_wp2_with (go_at_call 26; refine (refRecs_v s1 HG.out.good.fine.len).mono ?_; rintro e w5 ⟨v5, rfl, o5, he⟩)
  refine hK.out _ _ (he) ?_
  clear hK K
  try simp only [pA, pB, pC, pD]
  have r5 := o5.row (T := [51]) (by decide) (Nat.le_refl _)
  clear o5
  have hx := ext_trans hx he
  have s1 := s1.ext he
  have hd := hd.ext he
  have b3 := b3.ext he
  have b5 := b5.ext he
  clear he
  refine mixS 3 (by kernel_rfl) (by kernel_rfl) (by rfl) (by rfl) (fun K hK => ?_)
  go_wp2_with (go_at_call 34; refine (rDo_d r5 (sRecs_right HG.out.good.right) (by have := HG.out.good.fine.len; unfold sRecs; rw [List.length_map]; omega) hd HW.out).mono ?_; rintro e w6 ⟨v6, m6, q6, rfl, HM6, HQ6, r6, he⟩)
  refine hK.out _ _ (he) ?_
  clear hK K
  try simp only [pA, pB, pC, pD]
  have hx := ext_trans hx he
  have s1 := s1.ext he
  have hd := hd.ext he
  have b3 := b3.ext he
  have b5 := b5.ext he
  clear he r5
  apply mixF 4 (by kernel_rfl) (by rfl) (by rfl)
  ·(intro w' hx; go_simp <;> with_reducible rfl)
  simp only [pA, pB, pC, pD]
  apply mixF 5 (by kernel_rfl) (by rfl) (by rfl)
  ·(intro w' hx; go_simp <;> with_reducible rfl)
  simp only [pA, pB, pC, pD]
  apply mixF 6 (by kernel_rfl) (by rfl) (by rfl)
  ·(intro w' hx; go_simp <;> with_reducible rfl)
  simp only [pA, pB, pC, pD]
  apply mixF 7 (by kernel_rfl) (by rfl) (by rfl)
  ·(intro w' hx; go_simp <;> with_reducible rfl)
  simp only [pA, pB, pC, pD]
  apply mixF 8 (by kernel_rfl) (by rfl) (by rfl)
  ·(intro w' hx; go_simp <;> with_reducible rfl)
  simp only [pA, pB, pC, pD]
  apply mixF 9 (by kernel_rfl) (by rfl) (by rfl)
  ·(intro w' hx; go_simp <;> with_reducible rfl)
  simp only [pA, pB, pC, pD]
  apply mixF 10 (by kernel_rfl) (by rfl) (by rfl)
  ·(intro w' hx; go_simp <;> with_reducible rfl)
  simp only [pA, pB, pC, pD]
  refine mixEnd (by kernel_rfl) ?_
  obtain ⟨b5_0, b5_1, b5_2, b5_3⟩ := b5.c4
  have b5_z := b5.free
  have b5_l := b5.lt
  obtain ⟨b3_0, b3_1, b3_2, b3_3⟩ := b3.c4
  have b3_z := b3.free
  have b3_l := b3.lt
  go_wp2_with fail
  refine (stoDo_v s1 HG.out.good hd).mono ?_
  rintro e8 w8 ⟨v8, rfl, s8, he⟩
  try clear b5_0 b5_1 b5_2 b5_3 b5_z b5_l b3_0 b3_1 b3_2 b3_3 b3_z b3_l
  have hx := ext_trans hx he
  have r6 := r6.ext he
  have b5 := b5.ext he
  have b3 := b3.ext he
  clear he
  clear s1 hd b5 b3
  have HSM := Lib.hid (store_model HG.out d HW.out)
  rw [show (sDo s d).2.2 = q6 from HSM.out.1.trans HQ6.out.symm, show (sDo s d).2.1 = m6 from HSM.out.2.1.trans HM6.out.symm]
  have HP1 := Lib.hid (mSame_perm HSM.out.2.2.1)
  have HP2 := Lib.hid (mSame_perm HSM.out.2.2.2)
  have HY := Lib.hid (do_good HG.out.good d)
  clear HSM HQ6 HM6
  generalize (sDo s d).1 = y at s8 HP1 HP2 HY
  obtain ⟨A8, n8, c8, E8, m8, e8, F8, k8, f8, rfl, d8, _, _, _, _, _, _, _⟩ := s8.form
  go_upto_region 9 with (fail)
  generalize hwn : World.alloc w8 _ = w9
  have he : Ext w8 w9 := by rw [← hwn]; exact ext_alloc _ _
  have b12 : Box w9 w8.heap.size 33 #[.slice A8 n8 c8, .slice E8 m8 e8, .slice F8 k8 f8, .int .i64 y.next] := by rw [← hwn]; exact Box.new _ _ _ (by simp)
  clear hwn
  have hx := ext_trans hx he
  have s8 := s8.ext he
  have d8 := d8.ext he
  have r6 := r6.ext he
  clear he
  obtain ⟨g12, hgk⟩ : ∃ g, g = w8.heap.size := ⟨_, rfl⟩
  rw [← hgk] at b12 ⊢
  clear hgk
  have qe : (q6 == q6) = true := by simp
  have qm : (m6 == m6) = true := by simp
  obtain ⟨b12_0, b12_1, b12_2, b12_3⟩ := b12.c4
  have b12_z := b12.free
  have b12_l := b12.lt
  go_wp2_with fail
  refine (stoRecs_v s8 HY.out.fine.len HY.out.fine.small).mono ?_
  rintro e10 w10 ⟨v10, rfl, o10, he⟩
  try clear b12_0 b12_1 b12_2 b12_3 b12_z b12_l
  have hx := ext_trans hx he
  have d8 := d8.ext he
  have r6 := r6.ext he
  have b12 := b12.ext he
  clear he
  go_wp2_with fail
  refine (rSameRecs_v (o10.row (T := [51]) (base' := 0) (by decide) (Nat.le_refl _)) r6).mono ?_
  rintro e11 w11 ⟨rfl, he⟩
  have hx := ext_trans hx he
  have d8 := d8.ext he
  have r6 := r6.ext he
  have b12 := b12.ext he
  clear he
  rw [HP1.out]
  clear o10
  obtain ⟨b12_0, b12_1, b12_2, b12_3⟩ := b12.c4
  have b12_z := b12.free
  have b12_l := b12.lt
  go_wp2_with fail
  refine (stoMount_v d8 (good_fine HY.out.disk)).mono ?_
  rintro e12 w12 ⟨v12, rfl, s12, he⟩
  try clear b12_0 b12_1 b12_2 b12_3 b12_z b12_l
  have hx := ext_trans hx he
  have r6 := r6.ext he
  have b12 := b12.ext he
  clear he
  go_wp2_with fail
  refine (stoRecs_v s12 (mount_sto HY.out.disk).len (mount_sto HY.out.disk).small).mono ?_
  rintro e13 w13 ⟨v13, rfl, o13, he⟩
  have hx := ext_trans hx he
  have r6 := r6.ext he
  clear he
  go_wp2_with fail
  refine (rSameRecs_v (o13.row (T := [51]) (base' := 0) (by decide) (Nat.le_refl _)) r6).mono ?_
  rintro e14 w14 ⟨rfl, he⟩
  have hx := ext_trans hx he
  clear he
  rw [HP2.out]
  go_wp2_with fail
  go_ret
  exact ⟨rfl, hx⟩
 ·have HS := Lib.hid (store_wrong s d hw).1
  have q : (mWrong d != 0) = true := by simpa using hw
  have qe : (mWrong d == mWrong d) = true := by simp
  clear hw
  obtain ⟨b5_0, b5_1, b5_2, b5_3⟩ := b5.c4
  have b5_z := b5.free
  have b5_l := b5.lt
  obtain ⟨b3_0, b3_1, b3_2, b3_3⟩ := b3.c4
  have b3_z := b3.free
  have b3_l := b3.lt
  go_wp2_with fail
  refine (stoDo_v s1 HG.out.good hd).mono ?_
  rintro e5 w5 ⟨v5, rfl, s5, he⟩
  try clear b5_0 b5_1 b5_2 b5_3 b5_z b5_l b3_0 b3_1 b3_2 b3_3 b3_z b3_l
  have hx := ext_trans hx he
  have hd := hd.ext he
  have b5 := b5.ext he
  have b3 := b3.ext he
  clear he
  rw [HS.out] at s5 ⊢
  obtain ⟨A5, n5, c5, E5, m5, e5, F5, k5, f5, rfl, _, _, _, _, _, _, _, _⟩ := s5.form
  go_upto_region 6 with (fail)
  generalize hwn : World.alloc w5 _ = w6
  have he : Ext w5 w6 := by rw [← hwn]; exact ext_alloc _ _
  have b6 : Box w6 w5.heap.size 33 #[.slice A5 n5 c5, .slice E5 m5 e5, .slice F5 k5 f5, .int .i64 s.next] := by rw [← hwn]; exact Box.new _ _ _ (by simp)
  clear hwn
  have hx := ext_trans hx he
  have hd := hd.ext he
  have b3 := b3.ext he
  clear he b6
  obtain ⟨b3_0, b3_1, b3_2, b3_3⟩ := b3.c4
  have b3_z := b3.free
  have b3_l := b3.lt
  go_wp2_with fail
  refine (rWrongDeed_v hd).mono ?_
  rintro e7 w7 ⟨rfl, he⟩
  try clear b3_0 b3_1 b3_2 b3_3 b3_z b3_l
  have hx := ext_trans hx he
  have b3 := b3.ext he
  clear he
  go_wp2_with fail
  go_ret
  exact ⟨rfl, hx⟩
end Go.Proofs.YtmcgbdbhpnplmaaGreat
