/- Walks: scref1.PutPair. -/
import Derived.Test.YtmcgbdbhpnplmaaGreatPr2
namespace Go.Proofs.YtmcgbdbhpnplmaaGreat
open Go Go.RowKit
set_option maxRecDepth 100000 in
set_option maxHeartbeats 4000000 in
theorem rpPut_v {T : List TypeId} {base : Nat} {v rv : Value} {d : Dsk} {r : Rec} {p : Int} {w : World} (hT : tD ⊆ T) (hTd : 30 ∉ 5 :: T) (hbase : base ≤ w.heap.size) (h : DskV T w base v d) (hk : DskOk d) (hk4 : d.late.length ≤ 4000) (hr : RecV w base rv r) :
  Calls Tryz.prog 62 #[v, .int .i64 p, rv] w fun e w' => ∃ v' q, e = .returned (.tuple #[v', .int .i64 q]) ∧ Hid (q = (pPut d p r).2) ∧ DskV T w' base v' (pPut d p r).1 ∧ Ext w w' := by
 obtain ⟨A, n, c, E, m, e, rfl, HN, HM, hb, hl, hnc, hme⟩ := h.form
 obtain ⟨A2, n2, c2, rfl, hy, hyt⟩ := hr.at_
 clear hy hyt
 have hn4 : n ≤ 4096 := by have := hk.blocks; have := HN.out; omega
 have HT := Lib.hid hT
 clear hT
 go_enter Tryz.func62, Tryz.ntmps62
 go_upto_region 1 with (fail)
 generalize hwn : World.alloc (World.alloc (World.alloc w _) _) _ = W
 have hx : Ext w W := by rw [← hwn]; (repeat (with_reducible (first | assumption | exact Below.refl _ _ | refine Below.setCell ?_ (by simp <;> omega) _ | refine Below.alloc ?_ (by simp <;> omega) _ | refine Below.drew ?_ | refine below_drewN ?_ _)))
 have b3 : Box W w.heap.size 30 #[.slice A n c, .slice E m e] := by rw [← hwn]; exact ((Box.new _ _ _ rfl).alloc _).alloc _
 have b5 : Box W (w.heap.size + 1) 51 #[.int .i64 r.kind, .int .i64 r.key, .int .i64 r.ver, .slice A2 n2 c2] := by rw [← hwn]; exact (Box.new _ _ _ (by simp)).alloc _
 have b6 : Box W (w.heap.size + 1 + 1) 30 #[.slice none 0 0, .slice none 0 0] := by rw [← hwn]; exact Box.new _ _ _ (by simp)
 clear hwn
 obtain ⟨g3, hg3⟩ : ∃ g, g = w.heap.size := ⟨_, rfl⟩
 obtain ⟨g5, hg5⟩ : ∃ g, g = w.heap.size + 1 := ⟨_, rfl⟩
 obtain ⟨g6, hg6⟩ : ∃ g, g = w.heap.size + 1 + 1 := ⟨_, rfl⟩
 have l3 : w.heap.size ≤ g3 := by omega
 have l5 : g3 < g5 := by omega
 have l6 : g5 < g6 := by omega
 rw [← hg6] at b6 ⊢
 rw [← hg5] at b5 ⊢
 rw [show Box W w.heap.size 30 #[.slice A n c, .slice E m e] ↔ Box W g3 30 #[.slice A n c, .slice E m e] by rw [hg3]] at b3
 rw [← hg3]
 clear hg3 hg5 hg6
 have hz := hx.size
 have h := h.ext hx
 have hr := hr.ext hx
 by_cases hp : 0 ≤ p ∧ p < (n : Int) / 2
 ·have PI : Hid (pIn d p) := Lib.hid (by unfold pIn; rw [← HN.out]; exact hp)
  obtain ⟨h0, h1⟩ := hp
  have q0 : decide (p < 0) = false := by rw [decide_eq_false_iff_not]; omega
  have q1 : decide ((n : Int) / 2 ≤ p) = false := by rw [decide_eq_false_iff_not]; omega
  obtain ⟨b3_0, b3_1⟩ := b3.c2
  have b3_z := b3.free
  have b3_l := b3.lt
  obtain ⟨b5_0, b5_1, b5_2, b5_3⟩ := b5.c4
  have b5_z := b5.free
  have b5_l := b5.lt
  go_wp2_with fail
  refine (refWrong_v hr).mono ?_
  rintro e1 w1 ⟨rfl, he⟩
  try clear b3_0 b3_1 b3_z b3_l b5_0 b5_1 b5_2 b5_3 b5_z b5_l
  have hx := ext_trans hx he
  have h := h.ext he
  have hr := hr.ext he
  have b3 := b3.ext he
  have b5 := b5.ext he
  have b6 := b6.ext he
  have hz := hx.size
  clear he q0 q1 hb hl
  by_cases hw : rWrong r = 0
  ·have q2 : (rWrong r != 0) = false := by simpa using hw
   have HW := Lib.hid hw
   have P0 := putTo_step (r := r) PI.out hw (a := 0) (by omega)
   have P1 := putTo_step (r := r) PI.out hw (a := 1) (by omega)
   rw [show 2 * p + ((0 : Nat) : Int) = 2 * p by simp] at P0
   rw [show ((1 : Nat) : Int) = 1 from rfl] at P1
   have HP0 := Lib.hid P0
   have HP1 := Lib.hid P1
   clear hw P0 P1
   go_upto_region 6 with (fail)
   clear q2
   have hx := hx.drew
   have b3 := b3.drew
   have b5 := b5.drew
   have b6 := b6.drew
   have h := h.ext ((Below.refl _ _).drew)
   have hr := hr.ext ((Below.refl _ _).drew)
   refine wp_region_ue 12 [10] [0, 1, 2, 3, 4, 5, 8, 9, 10] rfl (by kernel_rfl) (by kernel_rfl) ?_
   generalize w1.drew = D at hx b3 b5 b6 h hr ⊢
   apply uF 0 (by kernel_rfl) (by rfl) (by rfl) (by rfl)
   ·(intro w' hx; obtain ⟨x0, x1⟩ := (b3.ext hx).c2; obtain ⟨y0, y1, y2, y3⟩ := (b5.ext hx).c4; go_simp <;> with_reducible rfl)
   simp only [pA, pB, pC, pD]
   apply uF 1 (by kernel_rfl) (by rfl) (by rfl) (by rfl)
   ·(intro w' hx; obtain ⟨x0, x1⟩ := (b3.ext hx).c2; obtain ⟨y0, y1, y2, y3⟩ := (b5.ext hx).c4; go_simp <;> with_reducible rfl)
   simp only [pA, pB, pC, pD]
   apply uF 2 (by kernel_rfl) (by rfl) (by rfl) (by rfl)
   ·(intro w' hx; obtain ⟨x0, x1⟩ := (b3.ext hx).c2; obtain ⟨y0, y1, y2, y3⟩ := (b5.ext hx).c4; go_simp <;> with_reducible rfl)
   simp only [pA, pB, pC, pD]
   apply uF 3 (by kernel_rfl) (by rfl) (by rfl) (by rfl)
   ·(intro w' hx; obtain ⟨x0, x1⟩ := (b3.ext hx).c2; obtain ⟨y0, y1, y2, y3⟩ := (b5.ext hx).c4; go_simp <;> with_reducible rfl)
   simp only [pA, pB, pC, pD]
   apply uF 4 (by kernel_rfl) (by rfl) (by rfl) (by rfl)
   ·(intro w' hx; obtain ⟨x0, x1⟩ := (b3.ext hx).c2; obtain ⟨y0, y1, y2, y3⟩ := (b5.ext hx).c4; go_simp <;> with_reducible rfl)
   simp only [pA, pB, pC, pD]
   apply uF 5 (by kernel_rfl) (by rfl) (by rfl) (by rfl)
   ·(intro w' hx; obtain ⟨x0, x1⟩ := (b3.ext hx).c2; obtain ⟨y0, y1, y2, y3⟩ := (b5.ext hx).c4; go_simp <;> with_reducible rfl)
   simp only [pA, pB, pC, pD]
   refine uS 6 (by kernel_rfl) (by kernel_rfl) (by rfl) (by rfl) (fun K hK => ?_)
   go_wp2_with (go_at_call 87; refine (refBytes_v hr HW.out).mono ?_; rintro e w4 ⟨v4, rfl, hv4, he⟩)
   refine hK.out _ _ (he) ?_
   clear hK K
   try simp only [pA, pB, pC, pD]
   have hx := ext_trans hx he
   have h := h.ext he
   have hr := hr.ext he
   have b3 := b3.ext he
   have b5 := b5.ext he
   have b6 := b6.ext he
   clear he
   refine uS 7 (by kernel_rfl) (by kernel_rfl) (by rfl) (by rfl) (fun K hK => ?_)
   go_wp2_with (go_at_call 104; refine (refPut_v HT.out (by have := hx.size; omega) h (putTo_ok (p := p) (r := r) hk hk4 HW.out 0) (hv4.sub (Nat.zero_le _))).mono ?_; rintro e w5 ⟨v5, q5, rfl, hq5, o5, he⟩)
   refine hK.out _ _ (he) ?_
   clear hK K
   try simp only [pA, pB, pC, pD]
   have hx := ext_trans hx he
   have b3 := b3.ext he
   have b5 := b5.ext he
   have b6 := b6.ext he
   have hr := hr.ext he
   rw [show dPut d (2 * p) (rBytes r (2 * p)) = _ from HP0.out] at o5
   clear he h hv4 hq5
   obtain ⟨A5, n5, c5, E5, m5, f5, rfl, HN5, HM5, _, _, _, _⟩ := o5.form
   apply uF 8 (by kernel_rfl) (by rfl) (by rfl) (by rfl)
   ·(intro w' hx; go_simp <;> with_reducible rfl)
   simp only [pA, pB, pC, pD]
   apply uF 9 (by kernel_rfl) (by rfl) (by rfl) (by rfl)
   ·(intro w' hx; go_simp <;> with_reducible rfl)
   simp only [pA, pB, pC, pD]
   apply uU 10 (by kernel_rfl) (by rfl) (by rfl)
   ·(intro w'; go_simp <;> with_reducible rfl)
   simp only [pA, pB, pC, pD]
   refine uL 11 (by kernel_rfl) (by kernel_rfl) (by kernel_rfl) (by rfl) (by rfl) (fun K hK => ?_)
   have hK' := Lib.hid hK
   clear hK
   have k3 := b3.kd
   obtain ⟨b3_0, b3_1⟩ := b3.c2
   have b3_z := b3.free
   have b3_l := b3.lt
   go_wp2
   refine hK'.out _ _ ?_
   clear hK' K
   refine uEnd (by kernel_rfl) ?_
   go_upto_region 7 with (fail)
   try clear b3_0 b3_1 b3_z b3_l
   generalize hwn : World.setCell (World.setCell w5 _ _) _ _ = w6
   have hx : Ext w w6 := by rw [← hwn]; (repeat (with_reducible (first | assumption | exact Below.refl _ _ | refine Below.setCell ?_ (by simp <;> omega) _ | refine Below.alloc ?_ (by simp <;> omega) _ | refine Below.drew ?_ | refine below_drewN ?_ _)))
   have b3 : Box w6 g3 30 #[.slice A5 n5 c5, .slice E5 m5 f5] := by rw [← hwn]; exact (b3.set 0 _).set 1 _
   have b5 : Box w6 g5 51 #[.int .i64 r.kind, .int .i64 r.key, .int .i64 r.ver, .slice A2 n2 c2] := by rw [← hwn]; (repeat (with_reducible (first | assumption | refine Box.alloc ?_ _ | refine Box.setOther ?_ (by simp <;> omega) _)))
   have b6 : Box w6 g6 30 #[.slice none 0 0, .slice none 0 0] := by rw [← hwn]; (repeat (with_reducible (first | assumption | refine Box.alloc ?_ _ | refine Box.setOther ?_ (by simp <;> omega) _)))
   have h := o5.kept (w' := w6) (by rw [← hwn]; exact ((Kept.refl T base _).setK k3 hTd (by omega) 0 _).setK (k3.set _ _) hTd (by omega) 1 _)
   have hr := hr.kept (T := []) (w' := w6) (by rw [← hwn]; (repeat (with_reducible (first | assumption | exact Kept.refl _ _ _ | (apply Kept.setK; rotate_left; (repeat (first | assumption | apply Kd.set | apply Kd.alloc | apply Kd.drew)); decide; omega) | refine Kept.allocK ?_ _ | refine Kept.drewK ?_))))
   clear hwn k3 o5
   have hx := hx.drew
   have b3 := b3.drew
   have b5 := b5.drew
   have b6 := b6.drew
   have h := h.ext ((Below.refl _ _).drew)
   have hr := hr.ext ((Below.refl _ _).drew)
   refine wp_region_ue 14 [12] [0, 1, 2, 3, 4, 5, 6, 7, 10, 11, 12] rfl (by kernel_rfl) (by kernel_rfl) ?_
   generalize w6.drew = D at hx b3 b5 b6 h hr ⊢
   apply uF 0 (by kernel_rfl) (by rfl) (by rfl) (by rfl)
   ·(intro w' hx; obtain ⟨x0, x1⟩ := (b3.ext hx).c2; obtain ⟨y0, y1, y2, y3⟩ := (b5.ext hx).c4; go_simp <;> with_reducible rfl)
   simp only [pA, pB, pC, pD]
   apply uF 1 (by kernel_rfl) (by rfl) (by rfl) (by rfl)
   ·(intro w' hx; obtain ⟨x0, x1⟩ := (b3.ext hx).c2; obtain ⟨y0, y1, y2, y3⟩ := (b5.ext hx).c4; go_simp <;> with_reducible rfl)
   simp only [pA, pB, pC, pD]
   apply uF 2 (by kernel_rfl) (by rfl) (by rfl) (by rfl)
   ·(intro w' hx; obtain ⟨x0, x1⟩ := (b3.ext hx).c2; obtain ⟨y0, y1, y2, y3⟩ := (b5.ext hx).c4; go_simp <;> with_reducible rfl)
   simp only [pA, pB, pC, pD]
   apply uF 3 (by kernel_rfl) (by rfl) (by rfl) (by rfl)
   ·(intro w' hx; obtain ⟨x0, x1⟩ := (b3.ext hx).c2; obtain ⟨y0, y1, y2, y3⟩ := (b5.ext hx).c4; go_simp <;> with_reducible rfl)
   simp only [pA, pB, pC, pD]
   apply uF 4 (by kernel_rfl) (by rfl) (by rfl) (by rfl)
   ·(intro w' hx; obtain ⟨x0, x1⟩ := (b3.ext hx).c2; obtain ⟨y0, y1, y2, y3⟩ := (b5.ext hx).c4; go_simp <;> with_reducible rfl)
   simp only [pA, pB, pC, pD]
   apply uF 5 (by kernel_rfl) (by rfl) (by rfl) (by rfl)
   ·(intro w' hx; obtain ⟨x0, x1⟩ := (b3.ext hx).c2; obtain ⟨y0, y1, y2, y3⟩ := (b5.ext hx).c4; go_simp <;> with_reducible rfl)
   simp only [pA, pB, pC, pD]
   apply uF 6 (by kernel_rfl) (by rfl) (by rfl) (by rfl)
   ·(intro w' hx; obtain ⟨x0, x1⟩ := (b3.ext hx).c2; obtain ⟨y0, y1, y2, y3⟩ := (b5.ext hx).c4; go_simp <;> with_reducible rfl)
   simp only [pA, pB, pC, pD]
   apply uF 7 (by kernel_rfl) (by rfl) (by rfl) (by rfl)
   ·(intro w' hx; obtain ⟨x0, x1⟩ := (b3.ext hx).c2; obtain ⟨y0, y1, y2, y3⟩ := (b5.ext hx).c4; go_simp <;> with_reducible rfl)
   simp only [pA, pB, pC, pD]
   refine uS 8 (by kernel_rfl) (by kernel_rfl) (by rfl) (by rfl) (fun K hK => ?_)
   go_wp2_with (go_at_call 87; refine (refBytes_v hr HW.out).mono ?_; rintro e w7 ⟨v4, rfl, hv4, he⟩)
   refine hK.out _ _ (he) ?_
   clear hK K
   try simp only [pA, pB, pC, pD]
   have hx := ext_trans hx he
   have h := h.ext he
   have hr := hr.ext he
   have b3 := b3.ext he
   have b5 := b5.ext he
   have b6 := b6.ext he
   clear he
   refine uS 9 (by kernel_rfl) (by kernel_rfl) (by rfl) (by rfl) (fun K hK => ?_)
   go_wp2_with (go_at_call 104; refine (refPut_v HT.out (by have := hx.size; omega) h (putTo_ok (p := p) (r := r) hk hk4 HW.out 1) (hv4.sub (Nat.zero_le _))).mono ?_; rintro e w8 ⟨v8, q8, rfl, hq8, o8, he⟩)
   refine hK.out _ _ (he) ?_
   clear hK K
   try simp only [pA, pB, pC, pD]
   have hx := ext_trans hx he
   have b3 := b3.ext he
   have b5 := b5.ext he
   have b6 := b6.ext he
   have hr := hr.ext he
   rw [HP1.out] at o8
   clear he h hv4 hq8
   obtain ⟨A8, n8, c8, E8, m8, f8, rfl, HN8, HM8, _, _, _, _⟩ := o8.form
   apply uF 10 (by kernel_rfl) (by rfl) (by rfl) (by rfl)
   ·(intro w' hx; go_simp <;> with_reducible rfl)
   simp only [pA, pB, pC, pD]
   apply uF 11 (by kernel_rfl) (by rfl) (by rfl) (by rfl)
   ·(intro w' hx; go_simp <;> with_reducible rfl)
   simp only [pA, pB, pC, pD]
   apply uU 12 (by kernel_rfl) (by rfl) (by rfl)
   ·(intro w'; go_simp <;> with_reducible rfl)
   simp only [pA, pB, pC, pD]
   refine uL 13 (by kernel_rfl) (by kernel_rfl) (by kernel_rfl) (by rfl) (by rfl) (fun K hK => ?_)
   have hK' := Lib.hid hK
   clear hK
   have k3 := b3.kd
   obtain ⟨b3_0, b3_1⟩ := b3.c2
   have b3_z := b3.free
   have b3_l := b3.lt
   go_wp2
   refine hK'.out _ _ ?_
   clear hK' K
   refine uEnd (by kernel_rfl) ?_
   go_upto_region 8 with (fail)
   try clear b3_0 b3_1 b3_z b3_l
   generalize hwn : World.setCell (World.setCell w8 _ _) _ _ = w9
   have hx : Ext w w9 := by rw [← hwn]; (repeat (with_reducible (first | assumption | exact Below.refl _ _ | refine Below.setCell ?_ (by simp <;> omega) _ | refine Below.alloc ?_ (by simp <;> omega) _ | refine Below.drew ?_ | refine below_drewN ?_ _)))
   have b3 : Box w9 g3 30 #[.slice A8 n8 c8, .slice E8 m8 f8] := by rw [← hwn]; exact (b3.set 0 _).set 1 _
   have b6 : Box w9 g6 30 #[.slice none 0 0, .slice none 0 0] := by rw [← hwn]; (repeat (with_reducible (first | assumption | refine Box.alloc ?_ _ | refine Box.setOther ?_ (by simp <;> omega) _)))
   have h := o8.kept (w' := w9) (by rw [← hwn]; exact ((Kept.refl T base _).setK k3 hTd (by omega) 0 _).setK (k3.set _ _) hTd (by omega) 1 _)
   clear hwn k3 o8
   have k6 := b6.kd
   obtain ⟨b3_0, b3_1⟩ := b3.c2
   have b3_z := b3.free
   have b3_l := b3.lt
   obtain ⟨b6_0, b6_1⟩ := b6.c2
   have b6_z := b6.free
   have b6_l := b6.lt
   go_wp2_with fail
   ((try simp only [Exit.inBlock, Exit.then]); refine bodyPost_ret (v := ?_) ?resultOf rfl ?_; case resultOf => (rw [results_cell_tmp rfl]; go_simp; rfl))
   refine ⟨_, _, rfl, ?_, ?_, ?_⟩
   ·rw [pPut_ok PI.out HW.out]; rfl
   ·rw [pPut_ok PI.out HW.out]
    exact h.kept (((Kept.refl T base _).setK k6 hTd (by omega) 0 _).setK (k6.set _ _) hTd (by omega) 1 _)
   ·(repeat (with_reducible (first | assumption | exact Below.refl _ _ | refine Below.setCell ?_ (by simp <;> omega) _ | refine Below.alloc ?_ (by simp <;> omega) _ | refine Below.drew ?_ | refine below_drewN ?_ _)))
  ·have q2 : (rWrong r != 0) = true := by simpa using hw
   have HP := Lib.hid (pPut_wrong PI.out hw)
   clear hw
   have k6 := b6.kd
   obtain ⟨b3_0, b3_1⟩ := b3.c2
   have b3_z := b3.free
   have b3_l := b3.lt
   obtain ⟨b6_0, b6_1⟩ := b6.c2
   have b6_z := b6.free
   have b6_l := b6.lt
   go_wp2_with fail
   ((try simp only [Exit.inBlock, Exit.then]); refine bodyPost_ret (v := ?_) ?resultOf rfl ?_; case resultOf => (rw [results_cell_tmp rfl]; go_simp; rfl))
   refine ⟨_, _, rfl, ?_, ?_, ?_⟩
   ·rw [HP.out]; rfl
   ·rw [HP.out]
    exact h.kept (((Kept.refl T base _).setK k6 hTd (by omega) 0 _).setK (k6.set _ _) hTd (by omega) 1 _)
   ·(repeat (with_reducible (first | assumption | exact Below.refl _ _ | refine Below.setCell ?_ (by simp <;> omega) _ | refine Below.alloc ?_ (by simp <;> omega) _ | refine Below.drew ?_ | refine below_drewN ?_ _)))
 ·have HP := Lib.hid (pPut_out (d := d) (p := p) (r := r) (by unfold pIn; rw [← HN.out]; exact hp))
  by_cases h0 : p < 0
  ·have q0 : decide (p < 0) = true := by simpa using h0
   have k6 := b6.kd
   obtain ⟨b3_0, b3_1⟩ := b3.c2
   have b3_z := b3.free
   have b3_l := b3.lt
   obtain ⟨b6_0, b6_1⟩ := b6.c2
   have b6_z := b6.free
   have b6_l := b6.lt
   go_wp2_with fail
   ((try simp only [Exit.inBlock, Exit.then]); refine bodyPost_ret (v := ?_) ?resultOf rfl ?_; case resultOf => (rw [results_cell_tmp rfl]; go_simp; rfl))
   refine ⟨_, _, rfl, ?_, ?_, ?_⟩
   ·rw [HP.out]; rfl
   ·rw [HP.out]
    exact h.kept (((Kept.refl T base _).setK k6 hTd (by omega) 0 _).setK (k6.set _ _) hTd (by omega) 1 _)
   ·(repeat (with_reducible (first | assumption | exact Below.refl _ _ | refine Below.setCell ?_ (by simp <;> omega) _ | refine Below.alloc ?_ (by simp <;> omega) _ | refine Below.drew ?_ | refine below_drewN ?_ _)))
  ·have q0 : decide (p < 0) = false := by simpa using h0
   have q1 : decide ((n : Int) / 2 ≤ p) = true := by rw [decide_eq_true_eq]; omega
   have k6 := b6.kd
   obtain ⟨b3_0, b3_1⟩ := b3.c2
   have b3_z := b3.free
   have b3_l := b3.lt
   obtain ⟨b6_0, b6_1⟩ := b6.c2
   have b6_z := b6.free
   have b6_l := b6.lt
   go_wp2_with fail
   ((try simp only [Exit.inBlock, Exit.then]); refine bodyPost_ret (v := ?_) ?resultOf rfl ?_; case resultOf => (rw [results_cell_tmp rfl]; go_simp; rfl))
   refine ⟨_, _, rfl, ?_, ?_, ?_⟩
   ·rw [HP.out]; rfl
   ·rw [HP.out]
    exact h.kept (((Kept.refl T base _).setK k6 hTd (by omega) 0 _).setK (k6.set _ _) hTd (by omega) 1 _)
   ·(repeat (with_reducible (first | assumption | exact Below.refl _ _ | refine Below.setCell ?_ (by simp <;> omega) _ | refine Below.alloc ?_ (by simp <;> omega) _ | refine Below.drew ?_ | refine below_drewN ?_ _)))
end Go.Proofs.YtmcgbdbhpnplmaaGreat
