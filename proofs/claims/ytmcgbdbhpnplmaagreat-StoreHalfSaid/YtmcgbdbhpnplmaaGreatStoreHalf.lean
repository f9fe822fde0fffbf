/- The statement StoreHalf: the walk of the law. -/
import Derived.Test.YtmcgbdbhpnplmaaGreatAlive8
import Derived.Test.YtmcgbdbhpnplmaaGreatSt7
namespace Go.Proofs.YtmcgbdbhpnplmaaGreat
open Go Go.RowKit
theorem fall_good {s : Sto} (g : sGood s) {d : Ded} (h : (sBegin s d).2.2 = 0) (bits : Int) : sGood (sMount (dKeep (sBegin s d).1.disk bits)) := by
 have := step_good g ⟨2, bits, 0, d⟩
 unfold yDo at this
 simpa [h] using this
set_option maxRecDepth 100000 in
set_option maxHeartbeats 4000000 in
theorem storeHalf_law (w : World) {v dv : Value} {l : List Stp} {d : Ded} {bits : Int} (hl : Row eStp [] w w.heap.size v l) (hd : DedV w w.heap.size dv d) :
  Calls Tryz.prog 6 #[v, dv, .int .i64 bits] w fun e w' => e = .returned (.bool true) ∧ Ext w w' := by
 obtain ⟨A, n, c, rfl, _, _, _⟩ := hl.form
 obtain ⟨A0, n0, c0, rfl, _, _⟩ := hd.at_
 go_enter Tryz.func6, Tryz.ntmps6
 go_upto_region 1 with (fail)
 generalize hwn : World.alloc w _ = w0
 have hx : Ext w w0 := by rw [← hwn]; exact ext_alloc _ _
 have b3 : Box w0 w.heap.size 25 #[.int .i64 d.kind, .int .i64 d.key, .int .i64 d.n, .slice A0 n0 c0] := by rw [← hwn]; exact Box.new _ _ _ rfl
 clear hwn
 have hl := hl.ext hx
 have hd := hd.ext hx
 obtain ⟨gd, hgd⟩ : ∃ g, g = w.heap.size := ⟨_, rfl⟩
 rw [show Box w0 w.heap.size 25 #[.int .i64 d.kind, .int .i64 d.key, .int .i64 d.n, .slice A0 n0 c0] ↔ Box w0 gd 25 #[.int .i64 d.kind, .int .i64 d.key, .int .i64 d.n, .slice A0 n0 c0] by rw [hgd]] at b3
 rw [← hgd]
 clear hgd
 go_wp2_with fail
 refine (alive8_w _).mono ?_
 rintro e0 w1 ⟨rfl, he⟩
 have hx := ext_trans hx he
 have hl := hl.ext he
 have hd := hd.ext he
 have b3 := b3.ext he
 clear he
 go_wp2_with fail
 refine (refGently_v hl).mono ?_
 rintro e1 w2 ⟨v1, rfl, s1, he⟩
 have hx := ext_trans hx he
 have hd := hd.ext he
 have b3 := b3.ext he
 clear he
 clear hl
 have HG := Lib.hid (gTo_tight new_tight (l.take 100))
 generalize gTo sNew (l.take 100) = s at s1 HG
 obtain ⟨A1, n1, c1, E1, m1, e1, F1, k1, f1, rfl, _, _, _, _, _, _, _, _⟩ := s1.form
 go_upto_region 4 with (fail)
 generalize hwn : World.alloc w2 _ = w3
 have he : Ext w2 w3 := by rw [← hwn]; exact ext_alloc _ _
 have b7 : Box w3 w2.heap.size 33 #[.slice A1 n1 c1, .slice E1 m1 e1, .slice F1 k1 f1, .int .i64 s.next] := by rw [← hwn]; exact Box.new _ _ _ (by simp)
 clear hwn
 have hx := ext_trans hx he
 have s1 := s1.ext he
 have hd := hd.ext he
 have b3 := b3.ext he
 clear he
 obtain ⟨g7, hgk⟩ : ∃ g, g = w2.heap.size := ⟨_, rfl⟩
 rw [← hgk] at b7 ⊢
 clear hgk
 obtain ⟨b3_0, b3_1, b3_2, b3_3⟩ := b3.c4
 have b3_z := b3.free
 have b3_l := b3.lt
 obtain ⟨b7_0, b7_1, b7_2, b7_3⟩ := b7.c4
 have b7_z := b7.free
 have b7_l := b7.lt
 go_wp2_with fail
 refine (stoBegin_v s1 HG.out.good hd).mono ?_
 rintro e3 w4 ⟨v4, rfl, s4, he⟩
 try clear b3_0 b3_1 b3_2 b3_3 b3_z b3_l b7_0 b7_1 b7_2 b7_3 b7_z b7_l
 have hx := ext_trans hx he
 have s1 := s1.ext he
 have hd := hd.ext he
 have b3 := b3.ext he
 have b7 := b7.ext he
 clear he
 obtain ⟨A4, n4, c4, E4, m4, e4, F4, k4, f4, rfl, d4, _, _, _, _, _, _, _⟩ := s4.form
 go_upto_region 5 with (fail)
 generalize hwn : World.alloc w4 _ = w5
 have he : Ext w4 w5 := by rw [← hwn]; exact ext_alloc _ _
 have b8 : Box w5 w4.heap.size 33 #[.slice A4 n4 c4, .slice E4 m4 e4, .slice F4 k4 f4, .int .i64 (sBegin s d).1.next] := by rw [← hwn]; exact Box.new _ _ _ (by simp)
 clear hwn
 have lb := b7.lt
 have hx := ext_trans hx he
 have s1 := s1.ext he
 have hd := hd.ext he
 have s4 := s4.ext he
 have d4 := d4.ext he
 have b3 := b3.ext he
 have b7 := b7.ext he
 clear he
 obtain ⟨g8, hgk⟩ : ∃ g, g = w4.heap.size := ⟨_, rfl⟩
 rw [← hgk] at b8 ⊢
 clear hgk
 by_cases hq : (sBegin s d).2.2 = 0
 ·have HQ := Lib.hid hq
  have q : ((sBegin s d).2.2 != 0) = false := by simpa using hq
  have HF := Lib.hid (begin_fine HG.out.good d)
  obtain ⟨hw, _, _⟩ := begin_ok HG.out.good hq
  have HW := Lib.hid hw
  clear hq hw
  have HH := Lib.hid (store_half HG.out bits HQ.out)
  have HGM := Lib.hid (fall_good HG.out.good HQ.out bits)
  go_upto_region 7 with (fail)
  clear q
  have he : Ext w5 w5.drew := (Below.refl _ _).drew
  have hx := ext_trans hx he
  have s1 := s1.ext he
  have hd := hd.ext he
  have d4 := d4.ext he
  have b3 := b3.ext he
  have b7 := b7.ext he
  have b8 := b8.ext he
  clear he s4
  refine wp_region_ext 11 [0, 2, 4, 5, 6, 7, 8, 9, 10] false rfl (by kernel_rfl) (by kernel_rfl) ?_
  generalize w5.drew = D at hx s1 hd d4 b3 b7 b8 ⊢
  apply mixF 0 (by kernel_rfl) (by rfl) (by rfl)
  ·(intro w' hx; obtain ⟨x0, x1, x2, x3⟩ := (b7.ext hx).c4; obtain ⟨y0, y1, y2, y3⟩ := (b3.ext hx).c4; go_simp <;> with_reducible rfl)
  simp only [pA, pB, pC, pD]
  apply mixF 2 (by kernel_rfl) (by rfl) (by rfl)
  ·(intro w' hx; obtain ⟨x0, x1, x2, x3⟩ := (b7.ext hx).c4; obtain ⟨y0, y1, y2, y3⟩ := (b3.ext hx).c4; go_simp <;> with_reducible rfl)
  simp only [pA, pB, pC, pD]
  refine mixS 1 (by kernel_rfl) (by kernel_rfl) (by rfl) (by rfl) (fun K hK => ?_)
  go_wp2_with (go_at_call 26; refine (refRecs_v s1 HG.out.good.fine.len).mono ?_; rintro e w6 ⟨v5, rfl, o5, he⟩)
  refine hK.out _ _ (he) ?_
  clear hK K
  try simp only [pA, pB, pC, pD]
  have r5 := o5.row (T := [51]) (by decide) (Nat.le_refl _)
  clear o5
  have hx := ext_trans hx he
  have s1 := s1.ext he
  have hd := hd.ext he
  have d4 := d4.ext he
  have b3 := b3.ext he
  have b7 := b7.ext he
  have b8 := b8.ext he
  clear he
  refine mixS 3 (by kernel_rfl) (by kernel_rfl) (by rfl) (by rfl) (fun K hK => ?_)
  go_wp2_with (go_at_call 34; refine (rDo_d r5 (sRecs_right HG.out.good.right) (by have := HG.out.good.fine.len; unfold sRecs; rw [List.length_map]; omega) hd HW.out).mono ?_; rintro e w7 ⟨v6, m6, q6, rfl, _, _, r6, he⟩)
  refine hK.out _ _ (he) ?_
  clear hK K
  try simp only [pA, pB, pC, pD]
  have hx := ext_trans hx he
  have s1 := s1.ext he
  have d4 := d4.ext he
  have b7 := b7.ext he
  have b8 := b8.ext he
  clear he r5 hd b3
  apply mixF 4 (by kernel_rfl) (by rfl) (by rfl)
  ·(intro w' hx; go_simp <;> with_reducible rfl)
  simp only [pA, pB, pC, pD]
  apply mixF 5 (by kernel_rfl) (by rfl) (by rfl)
  ·(intro w' hx; go_simp <;> with_reducible rfl)
  simp only [pA, pB, pC, pD]
  apply mixF 6 (by kernel_rfl) (by rfl) (by rfl)
  ·(intro w' hx; go_simp <;> with_reducible rfl)
  simp only [pA, pB, pC, pD]
  apply mixF 7 (by kernel_rfl) (by rfl) (by rfl)
  ·(intro w' hx; go_simp <;> with_reducible rfl)
  simp only [pA, pB, pC, pD]
  apply mixF 8 (by kernel_rfl) (by rfl) (by rfl)
  ·(intro w' hx; go_simp <;> with_reducible rfl)
  simp only [pA, pB, pC, pD]
  apply mixF 9 (by kernel_rfl) (by rfl) (by rfl)
  ·(intro w' hx; go_simp <;> with_reducible rfl)
  simp only [pA, pB, pC, pD]
  apply mixF 10 (by kernel_rfl) (by rfl) (by rfl)
  ·(intro w' hx; go_simp <;> with_reducible rfl)
  simp only [pA, pB, pC, pD]
  refine mixEnd (by kernel_rfl) ?_
  obtain ⟨b8_0, b8_1, b8_2, b8_3⟩ := b8.c4
  have b8_z := b8.free
  have b8_l := b8.lt
  go_wp2_with fail
  refine (refKeep_v (T := tS) (k := bits) tDS (Nat.zero_le _) d4 HF.out.ok HF.out.inn).mono ?_
  rintro e8 w8 ⟨v8, rfl, d8, he⟩
  try clear b8_0 b8_1 b8_2 b8_3 b8_z b8_l
  have hx := ext_trans hx he
  have s1 := s1.ext he
  have r6 := r6.ext he
  have b7 := b7.ext he
  have b8 := b8.ext he
  clear he
  go_wp2_with fail
  refine (stoMount_v d8 (HF.out.keep bits)).mono ?_
  rintro e9 w9 ⟨v9, rfl, s9, he⟩
  have hx := ext_trans hx he
  have s1 := s1.ext he
  have r6 := r6.ext he
  have b7 := b7.ext he
  clear he
  clear d4 d8 b8
  go_wp2_with fail
  refine (stoRecs_v s9 HGM.out.fine.len HGM.out.fine.small).mono ?_
  rintro e10 w10 ⟨v10, rfl, o10, he⟩
  have hx := ext_trans hx he
  have s1 := s1.ext he
  have r6 := r6.ext he
  have b7 := b7.ext he
  clear he
  have r10 := o10.row (T := [51]) (base' := 0) (by decide) (Nat.le_refl _)
  clear o10 s9
  obtain ⟨A10, n10, c10, rfl, _, _, _⟩ := r10.form
  obtain ⟨b7_0, b7_1, b7_2, b7_3⟩ := b7.c4
  have b7_z := b7.free
  have b7_l := b7.lt
  go_wp2_with fail
  refine (refRecs_v s1 HG.out.good.fine.len).mono ?_
  rintro e11 w11 ⟨v11, rfl, o11, he⟩
  try clear b7_0 b7_1 b7_2 b7_3 b7_z b7_l
  have hx := ext_trans hx he
  have r6 := r6.ext he
  have r10 := r10.ext he
  have b7 := b7.ext he
  clear he
  go_wp2_with fail
  refine (rSameRecs_v r10 (o11.row (T := [51]) (by decide) (Nat.le_refl _))).mono ?_
  rintro e12 w12 ⟨rfl, he⟩
  have hx := ext_trans hx he
  have r6 := r6.ext he
  have r10 := r10.ext he
  clear he
  have HB : Hid (mSame (sRecs (sMount (dKeep (sBegin s d).1.disk bits))) (sRecs s) = false → mSame (sRecs (sMount (dKeep (sBegin s d).1.disk bits))) (mDo (sRecs s) d).1 = true) := Lib.hid (fun h => by
   rcases HH.out with e | e
   ·rw [e, mSame_perm (List.Perm.refl _)] at h
    cases h
   ·exact mSame_perm e)
  clear o11
  cases hb : mSame (sRecs (sMount (dKeep (sBegin s d).1.disk bits))) (sRecs s) with
  | true =>
   clear hb HB
   go_wp2_with fail
   go_ret
   exact ⟨rfl, hx⟩
  | false =>
   have HB := Lib.hid (HB.out hb)
   clear hb
   go_wp2_with fail
   refine (rSameRecs_v r10 r6).mono ?_
   rintro e13 w13 ⟨rfl, he⟩
   have hx := ext_trans hx he
   clear he
   rw [HB.out]
   go_wp2_with fail
   go_ret
   exact ⟨rfl, hx⟩
 ·have q : ((sBegin s d).2.2 != 0) = true := by simpa using hq
  have HE := Lib.hid (begin_err hq).1
  clear hq d4
  rw [HE.out] at s4 b8
  obtain ⟨b7_0, b7_1, b7_2, b7_3⟩ := b7.c4
  have b7_z := b7.free
  have b7_l := b7.lt
  obtain ⟨b8_0, b8_1, b8_2, b8_3⟩ := b8.c4
  have b8_z := b8.free
  have b8_l := b8.lt
  go_wp2_with fail
  refine (sameStore_v s4 s1).mono ?_
  rintro e6 w6 ⟨rfl, he⟩
  try clear b7_0 b7_1 b7_2 b7_3 b7_z b7_l b8_0 b8_1 b8_2 b8_3 b8_z b8_l
  have hx := ext_trans hx he
  have b7 := b7.ext he
  have b8 := b8.ext he
  clear he
  go_wp2_with fail
  go_ret
  exact ⟨rfl, hx⟩
end Go.Proofs.YtmcgbdbhpnplmaaGreat
