/- The statement PairTells: the walk of the law. -/
import Derived.Test.YthgdbblpbekieaaPr6
import Derived.Test.YthgdbblpbekieaaPr7
namespace Go.Proofs.Ythgdbblpbekieaa
open Go Go.RowKit

theorem dSame_id (d : Dsk) : dSame d d = true := (dSame_iff d d).2 rfl
theorem rSame_id (r : Rec) : rSame r r = true := (rSame_iff r r).2 rfl
set_option maxRecDepth 100000 in
set_option maxHeartbeats 4000000 in
theorem pairTells_law (w : World) {v rv : Value} {d : Dsk} {r : Rec} {p : Int} (h : DskV tD w w.heap.size v d) (hr : RecV w w.heap.size rv r) :
  Calls Try.prog 7 #[v, .int .i64 p, rv] w fun e w' => e = .returned (.bool true) ∧ Ext w w' := by
 obtain ⟨A, n, c, E, m, e, rfl, HN, HM, hb, hl, hnc, hme⟩ := h.form
 obtain ⟨A2, n2, c2, rfl, _, hy⟩ := hr.at_
 clear hb hl HN HM
 have HT : Hid (tD ⊆ tD) := List.Subset.refl _
 go_enter Try.func7, Try.ntmps7
 go_upto_region 1 with (fail)
 generalize hwn : World.alloc (World.alloc w _) _ = W
 have hx : Ext w W := by rw [← hwn]; (repeat (with_reducible (first | assumption | exact Below.refl _ _ | refine Below.setCell ?_ (by simp <;> omega) _ | refine Below.alloc ?_ (by simp <;> omega) _ | refine Below.drew ?_ | refine below_drewN ?_ _)))
 have b3 : Box W w.heap.size 42 #[.slice A n c, .slice E m e] := by rw [← hwn]; exact (Box.new _ _ _ rfl).alloc _
 have b5 : Box W (w.heap.size + 1) 30 #[.int .i64 r.kind, .int .i64 r.key, .int .i64 r.ver, .slice A2 n2 c2] := by rw [← hwn]; exact Box.new _ _ _ (by simp)
 clear hwn hy
 have h := h.ext hx
 have hr := hr.ext hx
 obtain ⟨b3_0, b3_1⟩ := b3.c2
 have b3_z := b3.free
 have b3_l := b3.lt
 go_wp2_with fail
 refine (rightDisk_v h).mono ?_
 rintro e1 w1 ⟨rfl, he⟩
 try clear b3_0 b3_1 b3_z b3_l
 have hx := ext_trans hx he
 have h := h.ext he
 have hr := hr.ext he
 have b3 := b3.ext he
 have b5 := b5.ext he
 clear he
 cases hrd : dRight d with
 | false =>
  go_wp2_with fail
  go_ret
  exact ⟨rfl, hx⟩
 | true =>
  have HF := Lib.hid (dRight_fine hrd)
  have hf40 : d.late.length ≤ 40 := HF.out.late
  clear hrd
  obtain ⟨b3_0, b3_1⟩ := b3.c2
  have b3_z := b3.free
  have b3_l := b3.lt
  go_wp2_with fail
  refine (look_v (p := p) h HF.out.ok).mono ?_
  rintro e2 w2 ⟨v3, rfl, hr3, he⟩
  try clear b3_0 b3_1 b3_z b3_l
  have hx := ext_trans hx he
  have h := h.ext he
  have hr := hr.ext he
  have b3 := b3.ext he
  have b5 := b5.ext he
  clear he
  obtain ⟨r3, hr3'⟩ : ∃ r, (pLook d p).2 = r := ⟨_, rfl⟩
  obtain ⟨how, hhow⟩ : ∃ r, (pLook d p).1 = r := ⟨_, rfl⟩
  rw [hr3'] at hr3
  rw [hhow]
  have H3 := Lib.hid hr3'
  have HH := Lib.hid hhow
  clear hr3' hhow
  obtain ⟨A3, n3, c3, rfl, _, hy3⟩ := hr3.at_
  go_upto_region 4 with (fail)
  generalize hwn : World.alloc w2 _ = w3
  have he : Ext w2 w3 := by rw [← hwn]; exact ext_alloc _ _
  have b8 : Box w3 w2.heap.size 30 #[.int .i64 r3.kind, .int .i64 r3.key, .int .i64 r3.ver, .slice A3 n3 c3] := by rw [← hwn]; exact Box.new _ _ _ (by simp)
  clear hwn hy3
  have hx := ext_trans hx he
  have h := h.ext he
  have hr := hr.ext he
  have b3 := b3.ext he
  have b5 := b5.ext he
  have hr3 := hr3.ext he
  clear he
  obtain ⟨b3_0, b3_1⟩ := b3.c2
  have b3_z := b3.free
  have b3_l := b3.lt
  go_wp2_with fail
  refine (refLook_v (p := p) h HF.out.ok).mono ?_
  rintro e4 w4 ⟨v4, rfl, hr4, he⟩
  try clear b3_0 b3_1 b3_z b3_l
  have hx := ext_trans hx he
  have h := h.ext he
  have hr := hr.ext he
  have b3 := b3.ext he
  have b5 := b5.ext he
  have b8 := b8.ext he
  have hr3 := hr3.ext he
  clear he
  rw [H3.out] at hr4
  rw [HH.out]
  obtain ⟨A4, n4, c4, rfl, _, hy4⟩ := hr4.at_
  go_upto_region 5 with (fail)
  generalize hwn : World.alloc w4 _ = w5
  have he : Ext w4 w5 := by rw [← hwn]; exact ext_alloc _ _
  have b10 : Box w5 w4.heap.size 30 #[.int .i64 r3.kind, .int .i64 r3.key, .int .i64 r3.ver, .slice A4 n4 c4] := by rw [← hwn]; exact Box.new _ _ _ (by simp)
  clear hwn hy4
  have hx := ext_trans hx he
  have h := h.ext he
  have hr := hr.ext he
  have b3 := b3.ext he
  have b5 := b5.ext he
  have b8 := b8.ext he
  have hr3 := hr3.ext he
  have hr4 := hr4.ext he
  clear he
  have q1 : (how != how) = false := by simp
  obtain ⟨b8_0, b8_1, b8_2, b8_3⟩ := b8.c4
  have b8_z := b8.free
  have b8_l := b8.lt
  obtain ⟨b10_0, b10_1, b10_2, b10_3⟩ := b10.c4
  have b10_z := b10.free
  have b10_l := b10.lt
  go_wp2_with fail
  refine (refSame_v (r := r3) (s := r3) hr3 hr4).mono ?_
  rintro e6 w6 ⟨rfl, he⟩
  try clear b8_0 b8_1 b8_2 b8_3 b8_z b8_l b10_0 b10_1 b10_2 b10_3 b10_z b10_l
  have hx := ext_trans hx he
  have h := h.ext he
  have hr := hr.ext he
  have b3 := b3.ext he
  have b5 := b5.ext he
  have b8 := b8.ext he
  have b10 := b10.ext he
  clear he
  rw [rSame_id]
  clear q1 hr3 hr4 b8 b10
  obtain ⟨b3_0, b3_1⟩ := b3.c2
  have b3_z := b3.free
  have b3_l := b3.lt
  obtain ⟨b5_0, b5_1, b5_2, b5_3⟩ := b5.c4
  have b5_z := b5.free
  have b5_l := b5.lt
  go_wp2_with fail
  refine (pPut_v (p := p) h HF.out.ok (by omega) hr).mono ?_
  rintro e7 w7 ⟨v7, q7, rfl, hq7, h7, he⟩
  try clear b3_0 b3_1 b3_z b3_l b5_0 b5_1 b5_2 b5_3 b5_z b5_l
  have hx := ext_trans hx he
  have h := h.ext he
  have hr := hr.ext he
  have b3 := b3.ext he
  have b5 := b5.ext he
  clear he
  obtain ⟨A7, n7, c7, E7, m7, f7, rfl, HN7, HM7, _, _, _, _⟩ := h7.form
  clear HN7 HM7
  go_upto_region 8 with (fail)
  generalize hwn : World.alloc w7 _ = w8
  have he : Ext w7 w8 := by rw [← hwn]; exact ext_alloc _ _
  have b11 : Box w8 w7.heap.size 42 #[.slice A7 n7 c7, .slice E7 m7 f7] := by rw [← hwn]; exact Box.new _ _ _ (by simp)
  clear hwn
  have g11 := hx.size
  have g311 := b3.lt
  have hx := ext_trans hx he
  have h := h.ext he
  have hr := hr.ext he
  have b3 := b3.ext he
  have b5 := b5.ext he
  have h7 := h7.ext he
  clear he
  obtain ⟨b3_0, b3_1⟩ := b3.c2
  have b3_z := b3.free
  have b3_l := b3.lt
  obtain ⟨b5_0, b5_1, b5_2, b5_3⟩ := b5.c4
  have b5_z := b5.free
  have b5_l := b5.lt
  go_wp2_with fail
  refine (rpPut_v (p := p) HT.out (by decide) hx.size h HF.out.ok (by omega) hr).mono ?_
  rintro e9 w9 ⟨v9, q9, rfl, hq9, h9, he⟩
  try clear b3_0 b3_1 b3_z b3_l b5_0 b5_1 b5_2 b5_3 b5_z b5_l
  have hx := ext_trans hx he
  have h := h.ext he
  have hr := hr.ext he
  have b3 := b3.ext he
  have b5 := b5.ext he
  have b11 := b11.ext he
  have h7 := h7.ext he
  clear he
  obtain rfl : q9 = q7 := hq9.out.trans hq7.out.symm
  clear hq9 hq7
  obtain ⟨A9, n9, c9, E9, m9, f9, rfl, HN9, HM9, _, _, _, _⟩ := h9.form
  clear HN9 HM9
  go_upto_region 9 with (fail)
  generalize hwn : World.alloc w9 _ = w10
  have he : Ext w9 w10 := by rw [← hwn]; exact ext_alloc _ _
  have b13 : Box w10 w9.heap.size 42 #[.slice A9 n9 c9, .slice E9 m9 f9] := by rw [← hwn]; exact Box.new _ _ _ (by simp)
  clear hwn
  have g13 := hx.size
  have g113 := b11.lt
  have hx := ext_trans hx he
  have h := h.ext he
  have hr := hr.ext he
  have b3 := b3.ext he
  have b5 := b5.ext he
  have b11 := b11.ext he
  have h7 := h7.ext he
  have h9 := h9.ext he
  clear he
  have q1 : (q9 != q9) = false := by simp
  obtain ⟨b11_0, b11_1⟩ := b11.c2
  have b11_z := b11.free
  have b11_l := b11.lt
  obtain ⟨b13_0, b13_1⟩ := b13.c2
  have b13_z := b13.free
  have b13_l := b13.lt
  go_wp2_with fail
  refine (sameDisk_v h7 h9).mono ?_
  rintro e11 w11 ⟨rfl, he⟩
  try clear b11_0 b11_1 b11_z b11_l b13_0 b13_1 b13_z b13_l
  have hx := ext_trans hx he
  have h := h.ext he
  have b3 := b3.ext he
  have b11 := b11.ext he
  have b13 := b13.ext he
  clear he
  rw [dSame_id]
  clear q1 hr b5 h7 h9
  obtain ⟨b3_0, b3_1⟩ := b3.c2
  have b3_z := b3.free
  have b3_l := b3.lt
  go_wp2_with fail
  refine (mend_v (p := p) h HF.out.ok (by omega)).mono ?_
  rintro e12 w12 ⟨v12, q12, rfl, hq12, h12, he⟩
  try clear b3_0 b3_1 b3_z b3_l
  have hx := ext_trans hx he
  have h := h.ext he
  have b3 := b3.ext he
  have b11 := b11.ext he
  have b13 := b13.ext he
  clear he
  obtain ⟨A12, n12, c12, E12, m12, f12, rfl, HN12, HM12, _, _, _, _⟩ := h12.form
  clear HN12 HM12
  have k11 := b11.kd
  obtain ⟨b11_0, b11_1⟩ := b11.c2
  have b11_z := b11.free
  have b11_l := b11.lt
  go_upto_region 12 with (fail)
  try clear b11_0 b11_1 b11_z b11_l
  generalize hwn : World.setCell (World.setCell w12 _ _) _ _ = w13
  have hx : Ext w w13 := by rw [← hwn]; (repeat (with_reducible (first | assumption | exact Below.refl _ _ | refine Below.setCell ?_ (by simp <;> omega) _ | refine Below.alloc ?_ (by simp <;> omega) _ | refine Below.drew ?_ | refine below_drewN ?_ _)))
  have h := h.kept (w' := w13) (by rw [← hwn]; (repeat (with_reducible (first | assumption | exact Kept.refl _ _ _ | (apply Kept.setK; rotate_left; (repeat (first | assumption | apply Kd.set | apply Kd.alloc | apply Kd.drew)); decide; omega) | refine Kept.allocK ?_ _ | refine Kept.drewK ?_))))
  have h12 := h12.kept (w' := w13) (by rw [← hwn]; (repeat (with_reducible (first | assumption | exact Kept.refl _ _ _ | (apply Kept.setK; rotate_left; (repeat (first | assumption | apply Kd.set | apply Kd.alloc | apply Kd.drew)); decide; omega) | refine Kept.allocK ?_ _ | refine Kept.drewK ?_))))
  have b3 : Box w13 w.heap.size 42 #[.slice A n c, .slice E m e] := by rw [← hwn]; (repeat (with_reducible (first | assumption | refine Box.alloc ?_ _ | refine Box.setOther ?_ (by simp <;> omega) _)))
  have b13 : Box w13 w9.heap.size 42 #[.slice A9 n9 c9, .slice E9 m9 f9] := by rw [← hwn]; (repeat (with_reducible (first | assumption | refine Box.alloc ?_ _ | refine Box.setOther ?_ (by simp <;> omega) _)))
  have b11 : Box w13 w7.heap.size 42 #[.slice A12 n12 c12, .slice E12 m12 f12] := by rw [← hwn]; exact (b11.set 0 _).set 1 _
  clear hwn k11
  obtain ⟨b3_0, b3_1⟩ := b3.c2
  have b3_z := b3.free
  have b3_l := b3.lt
  go_wp2_with fail
  refine (refMend_v (p := p) HT.out (by decide) hx.size h HF.out.ok (by omega)).mono ?_
  rintro e14 w14 ⟨v14, q14, rfl, hq14, h14, he⟩
  try clear b3_0 b3_1 b3_z b3_l
  have hx := ext_trans hx he
  have b3 := b3.ext he
  have b11 := b11.ext he
  have b13 := b13.ext he
  have h12 := h12.ext he
  clear he
  obtain rfl : q14 = q12 := hq14.out.trans hq12.out.symm
  clear hq14 hq12 h b3
  obtain ⟨A14, n14, c14, E14, m14, f14, rfl, HN14, HM14, _, _, _, _⟩ := h14.form
  clear HN14 HM14
  have k13 := b13.kd
  obtain ⟨b13_0, b13_1⟩ := b13.c2
  have b13_z := b13.free
  have b13_l := b13.lt
  go_upto_region 13 with (fail)
  try clear b13_0 b13_1 b13_z b13_l
  generalize hwn : World.setCell (World.setCell w14 _ _) _ _ = w15
  have hx : Ext w w15 := by rw [← hwn]; (repeat (with_reducible (first | assumption | exact Below.refl _ _ | refine Below.setCell ?_ (by simp <;> omega) _ | refine Below.alloc ?_ (by simp <;> omega) _ | refine Below.drew ?_ | refine below_drewN ?_ _)))
  have h12 := h12.kept (w' := w15) (by rw [← hwn]; (repeat (with_reducible (first | assumption | exact Kept.refl _ _ _ | (apply Kept.setK; rotate_left; (repeat (first | assumption | apply Kd.set | apply Kd.alloc | apply Kd.drew)); decide; omega) | refine Kept.allocK ?_ _ | refine Kept.drewK ?_))))
  have h14 := h14.kept (w' := w15) (by rw [← hwn]; (repeat (with_reducible (first | assumption | exact Kept.refl _ _ _ | (apply Kept.setK; rotate_left; (repeat (first | assumption | apply Kd.set | apply Kd.alloc | apply Kd.drew)); decide; omega) | refine Kept.allocK ?_ _ | refine Kept.drewK ?_))))
  have b11 : Box w15 w7.heap.size 42 #[.slice A12 n12 c12, .slice E12 m12 f12] := by rw [← hwn]; (repeat (with_reducible (first | assumption | refine Box.alloc ?_ _ | refine Box.setOther ?_ (by simp <;> omega) _)))
  have b13 : Box w15 w9.heap.size 42 #[.slice A14 n14 c14, .slice E14 m14 f14] := by rw [← hwn]; exact (b13.set 0 _).set 1 _
  clear hwn k13
  by_cases h0 : p < 0
  ·have q0 : decide (p < 0) = true := by simpa using h0
   go_wp2_with fail
   go_ret
   exact ⟨rfl, hx⟩
  ·have q0 : decide (p < 0) = false := by simpa using h0
   by_cases h6 : 6 ≤ p
   ·have q1 : decide (6 ≤ p) = true := by simpa using h6
    go_wp2_with fail
    go_ret
    exact ⟨rfl, hx⟩
   ·have q1 : decide (6 ≤ p) = false := by simpa using h6
    have q2 : (q14 == q14) = true := by simp
    obtain ⟨b11_0, b11_1⟩ := b11.c2
    have b11_z := b11.free
    have b11_l := b11.lt
    obtain ⟨b13_0, b13_1⟩ := b13.c2
    have b13_z := b13.free
    have b13_l := b13.lt
    go_wp2_with fail
    refine (sameDisk_v h12 h14).mono ?_
    rintro e16 w16 ⟨rfl, he⟩
    try clear b11_0 b11_1 b11_z b11_l b13_0 b13_1 b13_z b13_l
    have hx := ext_trans hx he
    have b11 := b11.ext he
    have b13 := b13.ext he
    clear he
    rw [dSame_id]
    go_wp2_with fail
    go_ret
    exact ⟨rfl, hx⟩
end Go.Proofs.Ythgdbblpbekieaa

