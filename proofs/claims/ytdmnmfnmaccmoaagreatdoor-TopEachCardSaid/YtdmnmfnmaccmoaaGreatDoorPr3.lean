/- Walks: pair.Look. -/
import Derived.Test.YtdmnmfnmaccmoaaGreatDoorPr1
import Derived.Test.YtdmnmfnmaccmoaaGreatDoorMixU
namespace Go.Proofs.YtdmnmfnmaccmoaaGreatDoor
open Go Go.RowKit
theorem pLook_both' (d : Dsk) (p : Int) : pLook d p = pHow (bothOf d p).1 (bothOf d p).2 := by
 unfold pLook bothOf
 split
 ·rfl
 ·rfl
set_option maxRecDepth 100000 in
set_option maxHeartbeats 4000000 in
theorem look_v {T : List TypeId} {base : Nat} {v : Value} {d : Dsk} {p : Int} {w : World} (h : DskV T w base v d) (hk : DskOk d) :
  Calls Tryz.prog 53 #[v, .int .i64 p] w fun e w' => ∃ rv, e = .returned (.tuple #[.int .i64 (pLook d p).1, rv]) ∧ RecV w' 0 rv (pLook d p).2 ∧ Ext w w' := by
 obtain ⟨A, n, c, E, m, e, rfl, HN, HM, hb, hl, hnc, hme⟩ := h.form
 go_enter Tryz.func53, Tryz.ntmps53
 go_wp2_with fail
 generalize hwn : World.alloc (World.alloc w _) _ = W
 have hx : Ext w W := by rw [← hwn]; (repeat (with_reducible (first | assumption | exact Below.refl _ _ | refine Below.setCell ?_ (by simp <;> omega) _ | refine Below.alloc ?_ (by simp <;> omega) _ | refine Below.drew ?_ | refine below_drewN ?_ _)))
 have b5 : Box W (w.heap.size + 1) 54 #[.int .i64 0, .int .i64 0, .int .i64 0, .slice none 0 0] := by rw [← hwn]; exact Box.new _ _ _ (by simp)
 clear hwn
 obtain ⟨g5, hg5⟩ : ∃ g, g = w.heap.size + 1 := ⟨_, rfl⟩
 have l5 : w.heap.size < g5 := by omega
 rw [← hg5] at b5 ⊢
 clear hg5
 refine (both_v (p := p) (h.ext hx) hk).mono ?_
 rintro e1 w1 ⟨u0, u1, rfl, hu0, hu1, he⟩
 have hx := ext_trans hx he
 have b5 := b5.ext he
 clear he
 have hp := pLook_both' d p
 generalize bothOf d p = bo at hu0 hu1 hp ⊢
 obtain ⟨⟨s0, t0⟩, s1, t1⟩ := bo
 simp only at hu0 hu1 hp ⊢
 have HP := Lib.hid hp
 clear hp
 obtain ⟨A4, n4, c4, rfl, _, _⟩ := hu0.form
 obtain ⟨A5, n5, c5, rfl, _, _⟩ := hu1.form
 have hz1 := hx.size
 go_upto_region 4 with (fail)
 generalize hwn : World.alloc (World.alloc (World.alloc w1 _) _) _ = w2
 have he : Ext w1 w2 := by rw [← hwn]; (repeat (with_reducible (first | assumption | exact Below.refl _ _ | refine Below.setCell ?_ (by simp <;> omega) _ | refine Below.alloc ?_ (by simp <;> omega) _ | refine Below.drew ?_ | refine below_drewN ?_ _)))
 have hx := ext_trans hx he
 have b5 : Box w2 g5 54 #[.int .i64 0, .int .i64 0, .int .i64 0, .slice none 0 0] := by rw [← hwn]; (repeat (with_reducible (first | assumption | refine Box.alloc ?_ _ | refine Box.setOther ?_ (by simp <;> omega) _)))
 have b6 : B8 w2 w1.heap.size s0 s1 (.slice A4 n4 c4) (.slice A5 n5 c5) := by rw [← hwn]; exact ((Box.new _ _ _ rfl).alloc _).alloc _
 have b7 : Box w2 (w1.heap.size + 1) 143 #[.bool t0, .bool t1] := by rw [← hwn]; exact (Box.new _ _ _ (by simp)).alloc _
 have b8 : Box w2 (w1.heap.size + 1 + 1) 54 #[.int .i64 1, .int .i64 0, .int .i64 0, .slice none 0 0] := by rw [← hwn]; exact Box.new _ _ _ (by simp)
 have hu0 := hu0.ext he
 have hu1 := hu1.ext he
 clear hwn
 have eg := enters_of Tryz.func81 (by kernel_rfl) rfl
 cases t0 with
 | false =>
  cases t1 with
  | false =>
   have HQ : Hid (pHow (s0, false) (s1, false) = (4, rFree)) := by unfold Hid pHow pTells; simp [*]
   have H0 : Hid ((false && decide (s0.kind ≠ 1)) = false) := by unfold Hid; simp [*]
   have H1 : Hid ((false && decide (s1.kind ≠ 1)) = false) := by unfold Hid; simp [*]
   try clear k0
   try clear k1
   obtain ⟨b7_0, b7_1⟩ := b7.c2
   have b7_z := b7.free
   have b7_l := b7.lt
   obtain ⟨y0, y1, y2, y3, y4, y5, y6, y7⟩ := b6.c8
   have y8 := b6.lt
   go_upto_region 5 with (first | (go_at_call 81; first | ((with_reducible refine (tells0 b6 b7 H0.out).mono ?_); rintro e w' ⟨rfl, rfl⟩) | ((with_reducible refine (tells1 b6 b7 H1.out).mono ?_); rintro e w' ⟨rfl, rfl⟩)) | fail)
   have hx := hx.drew
   have b5 := b5.drew
   have b6 := b6.drew
   have b8 := b8.drew
   have hu0 := hu0.ext ((Below.refl _ _).drew)
   have hu1 := hu1.ext ((Below.refl _ _).drew)
   try clear b7_0 b7_1 b7_z b7_l
   clear b7
   obtain ⟨wz, hwz⟩ : ∃ wz, wz = w2 := ⟨_, rfl⟩
   rw [← hwz] at hx b5 b6 b8 hu0 hu1 ⊢
   clear hwz
   refine wp_region_ue 3 [] [0, 1] rfl (by kernel_rfl) (by kernel_rfl) ?_
   generalize wz.drew = D at hx b5 b6 b8 hu0 hu1 ⊢
   apply uF 0 (by kernel_rfl) (by rfl) (by rfl) (by rfl)
   ·(intro w' hx; obtain ⟨x0, x1, x2, x3⟩ := (b8.ext hx).c4; go_simp <;> with_reducible rfl)
   simp only [pA, pB, pC, pD]
   apply uF 1 (by kernel_rfl) (by rfl) (by rfl) (by rfl)
   ·(intro w' hx; go_simp <;> with_reducible rfl)
   simp only [pA, pB, pC, pD]
   refine uL 2 (by kernel_rfl) (by kernel_rfl) (by kernel_rfl) (by rfl) (by rfl) (fun K hK => ?_)
   have hK' := Lib.hid hK
   clear hK
   obtain ⟨b5_0, b5_1, b5_2, b5_3⟩ := b5.c4
   have b5_z := b5.free
   have b5_l := b5.lt
   have k5 := b5.kd
   go_wp2
   refine hK'.out _ _ ?_
   clear hK' K
   refine uEnd (by kernel_rfl) ?_
   go_wp2_with fail
   ((try simp only [Exit.inBlock, Exit.then]); refine bodyPost_ret (v := ?_) ?resultOf rfl ?_; case resultOf => (rw [results_tc rfl]; go_simp; rfl))
   exact ⟨_, by rw [HP.out, HQ.out], by rw [HP.out, HQ.out]; exact RecV.free _ _, by (repeat (with_reducible (first | assumption | exact Below.refl _ _ | refine Below.setCell ?_ (by simp <;> omega) _ | refine Below.alloc ?_ (by simp <;> omega) _ | refine Below.drew ?_ | refine below_drewN ?_ _)))⟩
  | true =>
   by_cases k1 : s1.kind = 1
   ·skip
    have HQ : Hid (pHow (s0, false) (s1, true) = (3, rFree)) := by unfold Hid pHow pTells; simp [*]
    have H0 : Hid ((false && decide (s0.kind ≠ 1)) = false) := by unfold Hid; simp [*]
    have H1 : Hid ((true && decide (s1.kind ≠ 1)) = false) := by unfold Hid; simp [*]
    try clear k0
    try clear k1
    obtain ⟨b7_0, b7_1⟩ := b7.c2
    have b7_z := b7.free
    have b7_l := b7.lt
    obtain ⟨y0, y1, y2, y3, y4, y5, y6, y7⟩ := b6.c8
    have y8 := b6.lt
    go_upto_region 16 with (first | (go_at_call 81; first | ((with_reducible refine (tells0 b6 b7 H0.out).mono ?_); rintro e w' ⟨rfl, rfl⟩) | ((with_reducible refine (tells1 b6 b7 H1.out).mono ?_); rintro e w' ⟨rfl, rfl⟩)) | fail)
    have hx := hx.drew
    have b5 := b5.drew
    have b6 := b6.drew
    have b8 := b8.drew
    have hu0 := hu0.ext ((Below.refl _ _).drew)
    have hu1 := hu1.ext ((Below.refl _ _).drew)
    try clear b5_0 b5_1 b5_2 b5_3 b5_z b5_l b7_0 b7_1 b7_z b7_l
    clear b7
    obtain ⟨wz, hwz⟩ : ∃ wz, wz = w2 := ⟨_, rfl⟩
    rw [← hwz] at hx b5 b6 b8 hu0 hu1 ⊢
    clear hwz
    refine wp_region_ue 3 [] [0, 1] rfl (by kernel_rfl) (by kernel_rfl) ?_
    generalize wz.drew = D at hx b5 b6 b8 hu0 hu1 ⊢
    apply uF 0 (by kernel_rfl) (by rfl) (by rfl) (by rfl)
    ·(intro w' hx; obtain ⟨x0, x1, x2, x3⟩ := (b8.ext hx).c4; go_simp <;> with_reducible rfl)
    simp only [pA, pB, pC, pD]
    apply uF 1 (by kernel_rfl) (by rfl) (by rfl) (by rfl)
    ·(intro w' hx; go_simp <;> with_reducible rfl)
    simp only [pA, pB, pC, pD]
    refine uL 2 (by kernel_rfl) (by kernel_rfl) (by kernel_rfl) (by rfl) (by rfl) (fun K hK => ?_)
    have hK' := Lib.hid hK
    clear hK
    obtain ⟨b5_0, b5_1, b5_2, b5_3⟩ := b5.c4
    have b5_z := b5.free
    have b5_l := b5.lt
    have k5 := b5.kd
    go_wp2
    refine hK'.out _ _ ?_
    clear hK' K
    refine uEnd (by kernel_rfl) ?_
    go_wp2_with fail
    ((try simp only [Exit.inBlock, Exit.then]); refine bodyPost_ret (v := ?_) ?resultOf rfl ?_; case resultOf => (rw [results_tc rfl]; go_simp; rfl))
    exact ⟨_, by rw [HP.out, HQ.out], by rw [HP.out, HQ.out]; exact RecV.free _ _, by (repeat (with_reducible (first | assumption | exact Below.refl _ _ | refine Below.setCell ?_ (by simp <;> omega) _ | refine Below.alloc ?_ (by simp <;> omega) _ | refine Below.drew ?_ | refine below_drewN ?_ _)))⟩
   ·skip
    have HQ : Hid (pHow (s0, false) (s1, true) = (2, s1)) := by unfold Hid pHow pTells; simp [*]
    have H0 : Hid ((false && decide (s0.kind ≠ 1)) = false) := by unfold Hid; simp [*]
    have H1 : Hid ((true && decide (s1.kind ≠ 1)) = true) := by unfold Hid; simp [*]
    try clear k0
    try clear k1
    obtain ⟨b7_0, b7_1⟩ := b7.c2
    have b7_z := b7.free
    have b7_l := b7.lt
    obtain ⟨y0, y1, y2, y3, y4, y5, y6, y7⟩ := b6.c8
    have y8 := b6.lt
    go_upto_region 13 with (first | (go_at_call 81; first | ((with_reducible refine (tells0 b6 b7 H0.out).mono ?_); rintro e w' ⟨rfl, rfl⟩) | ((with_reducible refine (tells1 b6 b7 H1.out).mono ?_); rintro e w' ⟨rfl, rfl⟩)) | fail)
    have hx := hx.drew
    have b5 := b5.drew
    have b6 := b6.drew
    have b8 := b8.drew
    have hu0 := hu0.ext ((Below.refl _ _).drew)
    have hu1 := hu1.ext ((Below.refl _ _).drew)
    try clear b5_0 b5_1 b5_2 b5_3 b5_z b5_l b7_0 b7_1 b7_z b7_l
    clear b7
    obtain ⟨wz, hwz⟩ : ∃ wz, wz = w2 := ⟨_, rfl⟩
    rw [← hwz] at hx b5 b6 b8 hu0 hu1 ⊢
    clear hwz
    refine wp_region_ue 4 [] [0, 1, 2] rfl (by kernel_rfl) (by kernel_rfl) ?_
    generalize wz.drew = D at hx b5 b6 b8 hu0 hu1 ⊢
    apply uF 0 (by kernel_rfl) (by rfl) (by rfl) (by rfl)
    ·(intro w' hx; obtain ⟨x0, x1, x2, x3, x4, x5, x6, x7⟩ := (b6.ext hx).c8; go_simp <;> with_reducible rfl)
    simp only [pA, pB, pC, pD]
    apply uF 1 (by kernel_rfl) (by rfl) (by rfl) (by rfl)
    ·(intro w' hx; obtain ⟨x0, x1, x2, x3, x4, x5, x6, x7⟩ := (b6.ext hx).c8; go_simp <;> with_reducible rfl)
    simp only [pA, pB, pC, pD]
    apply uF 2 (by kernel_rfl) (by rfl) (by rfl) (by rfl)
    ·(intro w' hx; obtain ⟨x0, x1, x2, x3, x4, x5, x6, x7⟩ := (b6.ext hx).c8; go_simp <;> with_reducible rfl)
    simp only [pA, pB, pC, pD]
    refine uL 3 (by kernel_rfl) (by kernel_rfl) (by kernel_rfl) (by rfl) (by rfl) (fun K hK => ?_)
    have hK' := Lib.hid hK
    clear hK
    obtain ⟨b5_0, b5_1, b5_2, b5_3⟩ := b5.c4
    have b5_z := b5.free
    have b5_l := b5.lt
    have k5 := b5.kd
    go_wp2
    refine hK'.out _ _ ?_
    clear hK' K
    refine uEnd (by kernel_rfl) ?_
    go_wp2_with fail
    ((try simp only [Exit.inBlock, Exit.then]); refine bodyPost_ret (v := ?_) ?resultOf rfl ?_; case resultOf => (rw [results_tc rfl]; go_simp; rfl))
    exact ⟨_, by rw [HP.out, HQ.out], by rw [HP.out, HQ.out]; exact RecV.kept (T := []) ⟨_, rfl, hu1⟩ (by (repeat (with_reducible (first | assumption | exact Kept.refl _ _ _ | (apply Kept.setK; rotate_left; (repeat (first | assumption | apply Kd.set | apply Kd.alloc | apply Kd.drew)); decide; omega) | refine Kept.allocK ?_ _ | refine Kept.drewK ?_)))), by (repeat (with_reducible (first | assumption | exact Below.refl _ _ | refine Below.setCell ?_ (by simp <;> omega) _ | refine Below.alloc ?_ (by simp <;> omega) _ | refine Below.drew ?_ | refine below_drewN ?_ _)))⟩
 | true =>
  cases t1 with
  | false =>
   by_cases k0 : s0.kind = 1
   ·skip
    have HQ : Hid (pHow (s0, true) (s1, false) = (3, rFree)) := by unfold Hid pHow pTells; simp [*]
    have H0 : Hid ((true && decide (s0.kind ≠ 1)) = false) := by unfold Hid; simp [*]
    have H1 : Hid ((false && decide (s1.kind ≠ 1)) = false) := by unfold Hid; simp [*]
    try clear k0
    try clear k1
    obtain ⟨b7_0, b7_1⟩ := b7.c2
    have b7_z := b7.free
    have b7_l := b7.lt
    obtain ⟨y0, y1, y2, y3, y4, y5, y6, y7⟩ := b6.c8
    have y8 := b6.lt
    go_upto_region 16 with (first | (go_at_call 81; first | ((with_reducible refine (tells0 b6 b7 H0.out).mono ?_); rintro e w' ⟨rfl, rfl⟩) | ((with_reducible refine (tells1 b6 b7 H1.out).mono ?_); rintro e w' ⟨rfl, rfl⟩)) | fail)
    have hx := hx.drew
    have b5 := b5.drew
    have b6 := b6.drew
    have b8 := b8.drew
    have hu0 := hu0.ext ((Below.refl _ _).drew)
    have hu1 := hu1.ext ((Below.refl _ _).drew)
    try clear b5_0 b5_1 b5_2 b5_3 b5_z b5_l b7_0 b7_1 b7_z b7_l
    clear b7
    obtain ⟨wz, hwz⟩ : ∃ wz, wz = w2 := ⟨_, rfl⟩
    rw [← hwz] at hx b5 b6 b8 hu0 hu1 ⊢
    clear hwz
    refine wp_region_ue 3 [] [0, 1] rfl (by kernel_rfl) (by kernel_rfl) ?_
    generalize wz.drew = D at hx b5 b6 b8 hu0 hu1 ⊢
    apply uF 0 (by kernel_rfl) (by rfl) (by rfl) (by rfl)
    ·(intro w' hx; obtain ⟨x0, x1, x2, x3⟩ := (b8.ext hx).c4; go_simp <;> with_reducible rfl)
    simp only [pA, pB, pC, pD]
    apply uF 1 (by kernel_rfl) (by rfl) (by rfl) (by rfl)
    ·(intro w' hx; go_simp <;> with_reducible rfl)
    simp only [pA, pB, pC, pD]
    refine uL 2 (by kernel_rfl) (by kernel_rfl) (by kernel_rfl) (by rfl) (by rfl) (fun K hK => ?_)
    have hK' := Lib.hid hK
    clear hK
    obtain ⟨b5_0, b5_1, b5_2, b5_3⟩ := b5.c4
    have b5_z := b5.free
    have b5_l := b5.lt
    have k5 := b5.kd
    go_wp2
    refine hK'.out _ _ ?_
    clear hK' K
    refine uEnd (by kernel_rfl) ?_
    go_wp2_with fail
    ((try simp only [Exit.inBlock, Exit.then]); refine bodyPost_ret (v := ?_) ?resultOf rfl ?_; case resultOf => (rw [results_tc rfl]; go_simp; rfl))
    exact ⟨_, by rw [HP.out, HQ.out], by rw [HP.out, HQ.out]; exact RecV.free _ _, by (repeat (with_reducible (first | assumption | exact Below.refl _ _ | refine Below.setCell ?_ (by simp <;> omega) _ | refine Below.alloc ?_ (by simp <;> omega) _ | refine Below.drew ?_ | refine below_drewN ?_ _)))⟩
   ·skip
    have HQ : Hid (pHow (s0, true) (s1, false) = (2, s0)) := by unfold Hid pHow pTells; simp [*]
    have H0 : Hid ((true && decide (s0.kind ≠ 1)) = true) := by unfold Hid; simp [*]
    have H1 : Hid ((false && decide (s1.kind ≠ 1)) = false) := by unfold Hid; simp [*]
    try clear k0
    try clear k1
    obtain ⟨b7_0, b7_1⟩ := b7.c2
    have b7_z := b7.free
    have b7_l := b7.lt
    obtain ⟨y0, y1, y2, y3, y4, y5, y6, y7⟩ := b6.c8
    have y8 := b6.lt
    go_upto_region 11 with (first | (go_at_call 81; first | ((with_reducible refine (tells0 b6 b7 H0.out).mono ?_); rintro e w' ⟨rfl, rfl⟩) | ((with_reducible refine (tells1 b6 b7 H1.out).mono ?_); rintro e w' ⟨rfl, rfl⟩)) | fail)
    have hx := hx.drew
    have b5 := b5.drew
    have b6 := b6.drew
    have b8 := b8.drew
    have hu0 := hu0.ext ((Below.refl _ _).drew)
    have hu1 := hu1.ext ((Below.refl _ _).drew)
    try clear b5_0 b5_1 b5_2 b5_3 b5_z b5_l b7_0 b7_1 b7_z b7_l
    clear b7
    obtain ⟨wz, hwz⟩ : ∃ wz, wz = w2 := ⟨_, rfl⟩
    rw [← hwz] at hx b5 b6 b8 hu0 hu1 ⊢
    clear hwz
    refine wp_region_ue 4 [] [0, 1, 2] rfl (by kernel_rfl) (by kernel_rfl) ?_
    generalize wz.drew = D at hx b5 b6 b8 hu0 hu1 ⊢
    apply uF 0 (by kernel_rfl) (by rfl) (by rfl) (by rfl)
    ·(intro w' hx; obtain ⟨x0, x1, x2, x3, x4, x5, x6, x7⟩ := (b6.ext hx).c8; go_simp <;> with_reducible rfl)
    simp only [pA, pB, pC, pD]
    apply uF 1 (by kernel_rfl) (by rfl) (by rfl) (by rfl)
    ·(intro w' hx; obtain ⟨x0, x1, x2, x3, x4, x5, x6, x7⟩ := (b6.ext hx).c8; go_simp <;> with_reducible rfl)
    simp only [pA, pB, pC, pD]
    apply uF 2 (by kernel_rfl) (by rfl) (by rfl) (by rfl)
    ·(intro w' hx; obtain ⟨x0, x1, x2, x3, x4, x5, x6, x7⟩ := (b6.ext hx).c8; go_simp <;> with_reducible rfl)
    simp only [pA, pB, pC, pD]
    refine uL 3 (by kernel_rfl) (by kernel_rfl) (by kernel_rfl) (by rfl) (by rfl) (fun K hK => ?_)
    have hK' := Lib.hid hK
    clear hK
    obtain ⟨b5_0, b5_1, b5_2, b5_3⟩ := b5.c4
    have b5_z := b5.free
    have b5_l := b5.lt
    have k5 := b5.kd
    go_wp2
    refine hK'.out _ _ ?_
    clear hK' K
    refine uEnd (by kernel_rfl) ?_
    go_wp2_with fail
    ((try simp only [Exit.inBlock, Exit.then]); refine bodyPost_ret (v := ?_) ?resultOf rfl ?_; case resultOf => (rw [results_tc rfl]; go_simp; rfl))
    exact ⟨_, by rw [HP.out, HQ.out], by rw [HP.out, HQ.out]; exact RecV.kept (T := []) ⟨_, rfl, hu0⟩ (by (repeat (with_reducible (first | assumption | exact Kept.refl _ _ _ | (apply Kept.setK; rotate_left; (repeat (first | assumption | apply Kd.set | apply Kd.alloc | apply Kd.drew)); decide; omega) | refine Kept.allocK ?_ _ | refine Kept.drewK ?_)))), by (repeat (with_reducible (first | assumption | exact Below.refl _ _ | refine Below.setCell ?_ (by simp <;> omega) _ | refine Below.alloc ?_ (by simp <;> omega) _ | refine Below.drew ?_ | refine below_drewN ?_ _)))⟩
  | true =>
   by_cases k0 : s0.kind = 1
   ·by_cases k1 : s1.kind = 1
    ·skip
     have HQ : Hid (pHow (s0, true) (s1, true) = (0, rFree)) := by unfold Hid pHow pTells; simp [*]
     have H0 : Hid ((true && decide (s0.kind ≠ 1)) = false) := by unfold Hid; simp [*]
     have H1 : Hid ((true && decide (s1.kind ≠ 1)) = false) := by unfold Hid; simp [*]
     try clear k0
     try clear k1
     obtain ⟨b7_0, b7_1⟩ := b7.c2
     have b7_z := b7.free
     have b7_l := b7.lt
     obtain ⟨y0, y1, y2, y3, y4, y5, y6, y7⟩ := b6.c8
     have y8 := b6.lt
     go_upto_region 15 with (first | (go_at_call 81; first | ((with_reducible refine (tells0 b6 b7 H0.out).mono ?_); rintro e w' ⟨rfl, rfl⟩) | ((with_reducible refine (tells1 b6 b7 H1.out).mono ?_); rintro e w' ⟨rfl, rfl⟩)) | fail)
     have hx := hx.drew
     have b5 := b5.drew
     have b6 := b6.drew
     have b8 := b8.drew
     have hu0 := hu0.ext ((Below.refl _ _).drew)
     have hu1 := hu1.ext ((Below.refl _ _).drew)
     try clear b5_0 b5_1 b5_2 b5_3 b5_z b5_l b7_0 b7_1 b7_z b7_l
     clear b7
     obtain ⟨wz, hwz⟩ : ∃ wz, wz = w2 := ⟨_, rfl⟩
     rw [← hwz] at hx b5 b6 b8 hu0 hu1 ⊢
     clear hwz
     refine wp_region_ue 3 [] [0, 1] rfl (by kernel_rfl) (by kernel_rfl) ?_
     generalize wz.drew = D at hx b5 b6 b8 hu0 hu1 ⊢
     apply uF 0 (by kernel_rfl) (by rfl) (by rfl) (by rfl)
     ·(intro w' hx; obtain ⟨x0, x1, x2, x3⟩ := (b8.ext hx).c4; go_simp <;> with_reducible rfl)
     simp only [pA, pB, pC, pD]
     apply uF 1 (by kernel_rfl) (by rfl) (by rfl) (by rfl)
     ·(intro w' hx; go_simp <;> with_reducible rfl)
     simp only [pA, pB, pC, pD]
     refine uL 2 (by kernel_rfl) (by kernel_rfl) (by kernel_rfl) (by rfl) (by rfl) (fun K hK => ?_)
     have hK' := Lib.hid hK
     clear hK
     obtain ⟨b5_0, b5_1, b5_2, b5_3⟩ := b5.c4
     have b5_z := b5.free
     have b5_l := b5.lt
     have k5 := b5.kd
     go_wp2
     refine hK'.out _ _ ?_
     clear hK' K
     refine uEnd (by kernel_rfl) ?_
     go_wp2_with fail
     ((try simp only [Exit.inBlock, Exit.then]); refine bodyPost_ret (v := ?_) ?resultOf rfl ?_; case resultOf => (rw [results_tc rfl]; go_simp; rfl))
     exact ⟨_, by rw [HP.out, HQ.out], by rw [HP.out, HQ.out]; exact RecV.free _ _, by (repeat (with_reducible (first | assumption | exact Below.refl _ _ | refine Below.setCell ?_ (by simp <;> omega) _ | refine Below.alloc ?_ (by simp <;> omega) _ | refine Below.drew ?_ | refine below_drewN ?_ _)))⟩
    ·skip
     have HQ : Hid (pHow (s0, true) (s1, true) = (2, s1)) := by unfold Hid pHow pTells; simp [*]
     have H0 : Hid ((true && decide (s0.kind ≠ 1)) = false) := by unfold Hid; simp [*]
     have H1 : Hid ((true && decide (s1.kind ≠ 1)) = true) := by unfold Hid; simp [*]
     try clear k0
     try clear k1
     obtain ⟨b7_0, b7_1⟩ := b7.c2
     have b7_z := b7.free
     have b7_l := b7.lt
     obtain ⟨y0, y1, y2, y3, y4, y5, y6, y7⟩ := b6.c8
     have y8 := b6.lt
     go_upto_region 13 with (first | (go_at_call 81; first | ((with_reducible refine (tells0 b6 b7 H0.out).mono ?_); rintro e w' ⟨rfl, rfl⟩) | ((with_reducible refine (tells1 b6 b7 H1.out).mono ?_); rintro e w' ⟨rfl, rfl⟩)) | fail)
     have hx := hx.drew
     have b5 := b5.drew
     have b6 := b6.drew
     have b8 := b8.drew
     have hu0 := hu0.ext ((Below.refl _ _).drew)
     have hu1 := hu1.ext ((Below.refl _ _).drew)
     try clear b5_0 b5_1 b5_2 b5_3 b5_z b5_l b7_0 b7_1 b7_z b7_l
     clear b7
     obtain ⟨wz, hwz⟩ : ∃ wz, wz = w2 := ⟨_, rfl⟩
     rw [← hwz] at hx b5 b6 b8 hu0 hu1 ⊢
     clear hwz
     refine wp_region_ue 4 [] [0, 1, 2] rfl (by kernel_rfl) (by kernel_rfl) ?_
     generalize wz.drew = D at hx b5 b6 b8 hu0 hu1 ⊢
     apply uF 0 (by kernel_rfl) (by rfl) (by rfl) (by rfl)
     ·(intro w' hx; obtain ⟨x0, x1, x2, x3, x4, x5, x6, x7⟩ := (b6.ext hx).c8; go_simp <;> with_reducible rfl)
     simp only [pA, pB, pC, pD]
     apply uF 1 (by kernel_rfl) (by rfl) (by rfl) (by rfl)
     ·(intro w' hx; obtain ⟨x0, x1, x2, x3, x4, x5, x6, x7⟩ := (b6.ext hx).c8; go_simp <;> with_reducible rfl)
     simp only [pA, pB, pC, pD]
     apply uF 2 (by kernel_rfl) (by rfl) (by rfl) (by rfl)
     ·(intro w' hx; obtain ⟨x0, x1, x2, x3, x4, x5, x6, x7⟩ := (b6.ext hx).c8; go_simp <;> with_reducible rfl)
     simp only [pA, pB, pC, pD]
     refine uL 3 (by kernel_rfl) (by kernel_rfl) (by kernel_rfl) (by rfl) (by rfl) (fun K hK => ?_)
     have hK' := Lib.hid hK
     clear hK
     obtain ⟨b5_0, b5_1, b5_2, b5_3⟩ := b5.c4
     have b5_z := b5.free
     have b5_l := b5.lt
     have k5 := b5.kd
     go_wp2
     refine hK'.out _ _ ?_
     clear hK' K
     refine uEnd (by kernel_rfl) ?_
     go_wp2_with fail
     ((try simp only [Exit.inBlock, Exit.then]); refine bodyPost_ret (v := ?_) ?resultOf rfl ?_; case resultOf => (rw [results_tc rfl]; go_simp; rfl))
     exact ⟨_, by rw [HP.out, HQ.out], by rw [HP.out, HQ.out]; exact RecV.kept (T := []) ⟨_, rfl, hu1⟩ (by (repeat (with_reducible (first | assumption | exact Kept.refl _ _ _ | (apply Kept.setK; rotate_left; (repeat (first | assumption | apply Kd.set | apply Kd.alloc | apply Kd.drew)); decide; omega) | refine Kept.allocK ?_ _ | refine Kept.drewK ?_)))), by (repeat (with_reducible (first | assumption | exact Below.refl _ _ | refine Below.setCell ?_ (by simp <;> omega) _ | refine Below.alloc ?_ (by simp <;> omega) _ | refine Below.drew ?_ | refine below_drewN ?_ _)))⟩
   ·by_cases k1 : s1.kind = 1
    ·skip
     have HQ : Hid (pHow (s0, true) (s1, true) = (2, s0)) := by unfold Hid pHow pTells; simp [*]
     have H0 : Hid ((true && decide (s0.kind ≠ 1)) = true) := by unfold Hid; simp [*]
     have H1 : Hid ((true && decide (s1.kind ≠ 1)) = false) := by unfold Hid; simp [*]
     try clear k0
     try clear k1
     obtain ⟨b7_0, b7_1⟩ := b7.c2
     have b7_z := b7.free
     have b7_l := b7.lt
     obtain ⟨y0, y1, y2, y3, y4, y5, y6, y7⟩ := b6.c8
     have y8 := b6.lt
     go_upto_region 11 with (first | (go_at_call 81; first | ((with_reducible refine (tells0 b6 b7 H0.out).mono ?_); rintro e w' ⟨rfl, rfl⟩) | ((with_reducible refine (tells1 b6 b7 H1.out).mono ?_); rintro e w' ⟨rfl, rfl⟩)) | fail)
     have hx := hx.drew
     have b5 := b5.drew
     have b6 := b6.drew
     have b8 := b8.drew
     have hu0 := hu0.ext ((Below.refl _ _).drew)
     have hu1 := hu1.ext ((Below.refl _ _).drew)
     try clear b5_0 b5_1 b5_2 b5_3 b5_z b5_l b7_0 b7_1 b7_z b7_l
     clear b7
     obtain ⟨wz, hwz⟩ : ∃ wz, wz = w2 := ⟨_, rfl⟩
     rw [← hwz] at hx b5 b6 b8 hu0 hu1 ⊢
     clear hwz
     refine wp_region_ue 4 [] [0, 1, 2] rfl (by kernel_rfl) (by kernel_rfl) ?_
     generalize wz.drew = D at hx b5 b6 b8 hu0 hu1 ⊢
     apply uF 0 (by kernel_rfl) (by rfl) (by rfl) (by rfl)
     ·(intro w' hx; obtain ⟨x0, x1, x2, x3, x4, x5, x6, x7⟩ := (b6.ext hx).c8; go_simp <;> with_reducible rfl)
     simp only [pA, pB, pC, pD]
     apply uF 1 (by kernel_rfl) (by rfl) (by rfl) (by rfl)
     ·(intro w' hx; obtain ⟨x0, x1, x2, x3, x4, x5, x6, x7⟩ := (b6.ext hx).c8; go_simp <;> with_reducible rfl)
     simp only [pA, pB, pC, pD]
     apply uF 2 (by kernel_rfl) (by rfl) (by rfl) (by rfl)
     ·(intro w' hx; obtain ⟨x0, x1, x2, x3, x4, x5, x6, x7⟩ := (b6.ext hx).c8; go_simp <;> with_reducible rfl)
     simp only [pA, pB, pC, pD]
     refine uL 3 (by kernel_rfl) (by kernel_rfl) (by kernel_rfl) (by rfl) (by rfl) (fun K hK => ?_)
     have hK' := Lib.hid hK
     clear hK
     obtain ⟨b5_0, b5_1, b5_2, b5_3⟩ := b5.c4
     have b5_z := b5.free
     have b5_l := b5.lt
     have k5 := b5.kd
     go_wp2
     refine hK'.out _ _ ?_
     clear hK' K
     refine uEnd (by kernel_rfl) ?_
     go_wp2_with fail
     ((try simp only [Exit.inBlock, Exit.then]); refine bodyPost_ret (v := ?_) ?resultOf rfl ?_; case resultOf => (rw [results_tc rfl]; go_simp; rfl))
     exact ⟨_, by rw [HP.out, HQ.out], by rw [HP.out, HQ.out]; exact RecV.kept (T := []) ⟨_, rfl, hu0⟩ (by (repeat (with_reducible (first | assumption | exact Kept.refl _ _ _ | (apply Kept.setK; rotate_left; (repeat (first | assumption | apply Kd.set | apply Kd.alloc | apply Kd.drew)); decide; omega) | refine Kept.allocK ?_ _ | refine Kept.drewK ?_)))), by (repeat (with_reducible (first | assumption | exact Below.refl _ _ | refine Below.setCell ?_ (by simp <;> omega) _ | refine Below.alloc ?_ (by simp <;> omega) _ | refine Below.drew ?_ | refine below_drewN ?_ _)))⟩
    ·cases hs : rSame s0 s1 with
     | true =>
      have HQ : Hid (pHow (s0, true) (s1, true) = (1, s0)) := by unfold Hid pHow pTells; simp [*]
      have H0 : Hid ((true && decide (s0.kind ≠ 1)) = true) := by unfold Hid; simp [*]
      have H1 : Hid ((true && decide (s1.kind ≠ 1)) = true) := by unfold Hid; simp [*]
      have HS := Lib.hid hs
      clear hs
      try clear k0
      try clear k1
      obtain ⟨b7_0, b7_1⟩ := b7.c2
      have b7_z := b7.free
      have b7_l := b7.lt
      obtain ⟨y0, y1, y2, y3, y4, y5, y6, y7⟩ := b6.c8
      have y8 := b6.lt
      go_upto_region 7 with (first | (go_at_call 81; first | ((with_reducible refine (tells0 b6 b7 H0.out).mono ?_); rintro e w' ⟨rfl, rfl⟩) | ((with_reducible refine (tells1 b6 b7 H1.out).mono ?_); rintro e w' ⟨rfl, rfl⟩)) | (go_at_call 58; refine (recSame_v (r := s0) (s := s1) ⟨_, rfl, hu0⟩ ⟨_, rfl, hu1⟩).mono ?_; rintro e w3 ⟨rfl, he⟩; have hx := ext_trans hx he; have b5 := b5.ext he; have b6 := b6.ext he; have b7 := b7.ext he; have b8 := b8.ext he; have hu0 := hu0.ext he; have hu1 := hu1.ext he; have b7_0 := b7.cell 0 rfl; have b7_1 := b7.cell 1 rfl; clear he; rw [HS.out]) | fail)
      have hx := hx.drew
      have b5 := b5.drew
      have b6 := b6.drew
      have b8 := b8.drew
      have hu0 := hu0.ext ((Below.refl _ _).drew)
      have hu1 := hu1.ext ((Below.refl _ _).drew)
      try clear b5_0 b5_1 b5_2 b5_3 b5_z b5_l b7_0 b7_1 b7_z b7_l
      clear b7
      obtain ⟨wz, hwz⟩ : ∃ wz, wz = w3 := ⟨_, rfl⟩
      rw [← hwz] at hx b5 b6 b8 hu0 hu1 ⊢
      clear hwz
      refine wp_region_ue 4 [] [0, 1, 2] rfl (by kernel_rfl) (by kernel_rfl) ?_
      generalize wz.drew = D at hx b5 b6 b8 hu0 hu1 ⊢
      apply uF 0 (by kernel_rfl) (by rfl) (by rfl) (by rfl)
      ·(intro w' hx; obtain ⟨x0, x1, x2, x3, x4, x5, x6, x7⟩ := (b6.ext hx).c8; go_simp <;> with_reducible rfl)
      simp only [pA, pB, pC, pD]
      apply uF 1 (by kernel_rfl) (by rfl) (by rfl) (by rfl)
      ·(intro w' hx; obtain ⟨x0, x1, x2, x3, x4, x5, x6, x7⟩ := (b6.ext hx).c8; go_simp <;> with_reducible rfl)
      simp only [pA, pB, pC, pD]
      apply uF 2 (by kernel_rfl) (by rfl) (by rfl) (by rfl)
      ·(intro w' hx; obtain ⟨x0, x1, x2, x3, x4, x5, x6, x7⟩ := (b6.ext hx).c8; go_simp <;> with_reducible rfl)
      simp only [pA, pB, pC, pD]
      refine uL 3 (by kernel_rfl) (by kernel_rfl) (by kernel_rfl) (by rfl) (by rfl) (fun K hK => ?_)
      have hK' := Lib.hid hK
      clear hK
      obtain ⟨b5_0, b5_1, b5_2, b5_3⟩ := b5.c4
      have b5_z := b5.free
      have b5_l := b5.lt
      have k5 := b5.kd
      go_wp2
      refine hK'.out _ _ ?_
      clear hK' K
      refine uEnd (by kernel_rfl) ?_
      go_wp2_with fail
      ((try simp only [Exit.inBlock, Exit.then]); refine bodyPost_ret (v := ?_) ?resultOf rfl ?_; case resultOf => (rw [results_tc rfl]; go_simp; rfl))
      exact ⟨_, by rw [HP.out, HQ.out], by rw [HP.out, HQ.out]; exact RecV.kept (T := []) ⟨_, rfl, hu0⟩ (by (repeat (with_reducible (first | assumption | exact Kept.refl _ _ _ | (apply Kept.setK; rotate_left; (repeat (first | assumption | apply Kd.set | apply Kd.alloc | apply Kd.drew)); decide; omega) | refine Kept.allocK ?_ _ | refine Kept.drewK ?_)))), by (repeat (with_reducible (first | assumption | exact Below.refl _ _ | refine Below.setCell ?_ (by simp <;> omega) _ | refine Below.alloc ?_ (by simp <;> omega) _ | refine Below.drew ?_ | refine below_drewN ?_ _)))⟩
     | false =>
      have HQ : Hid (pHow (s0, true) (s1, true) = (5, s0)) := by unfold Hid pHow pTells; simp [*]
      have H0 : Hid ((true && decide (s0.kind ≠ 1)) = true) := by unfold Hid; simp [*]
      have H1 : Hid ((true && decide (s1.kind ≠ 1)) = true) := by unfold Hid; simp [*]
      have HS := Lib.hid hs
      clear hs
      try clear k0
      try clear k1
      obtain ⟨b7_0, b7_1⟩ := b7.c2
      have b7_z := b7.free
      have b7_l := b7.lt
      obtain ⟨y0, y1, y2, y3, y4, y5, y6, y7⟩ := b6.c8
      have y8 := b6.lt
      go_upto_region 9 with (first | (go_at_call 81; first | ((with_reducible refine (tells0 b6 b7 H0.out).mono ?_); rintro e w' ⟨rfl, rfl⟩) | ((with_reducible refine (tells1 b6 b7 H1.out).mono ?_); rintro e w' ⟨rfl, rfl⟩)) | (go_at_call 58; refine (recSame_v (r := s0) (s := s1) ⟨_, rfl, hu0⟩ ⟨_, rfl, hu1⟩).mono ?_; rintro e w3 ⟨rfl, he⟩; have hx := ext_trans hx he; have b5 := b5.ext he; have b6 := b6.ext he; have b7 := b7.ext he; have b8 := b8.ext he; have hu0 := hu0.ext he; have hu1 := hu1.ext he; have b7_0 := b7.cell 0 rfl; have b7_1 := b7.cell 1 rfl; clear he; rw [HS.out]) | fail)
      have hx := hx.drew
      have b5 := b5.drew
      have b6 := b6.drew
      have b8 := b8.drew
      have hu0 := hu0.ext ((Below.refl _ _).drew)
      have hu1 := hu1.ext ((Below.refl _ _).drew)
      try clear b5_0 b5_1 b5_2 b5_3 b5_z b5_l b7_0 b7_1 b7_z b7_l
      clear b7
      obtain ⟨wz, hwz⟩ : ∃ wz, wz = w3 := ⟨_, rfl⟩
      rw [← hwz] at hx b5 b6 b8 hu0 hu1 ⊢
      clear hwz
      refine wp_region_ue 4 [] [0, 1, 2] rfl (by kernel_rfl) (by kernel_rfl) ?_
      generalize wz.drew = D at hx b5 b6 b8 hu0 hu1 ⊢
      apply uF 0 (by kernel_rfl) (by rfl) (by rfl) (by rfl)
      ·(intro w' hx; obtain ⟨x0, x1, x2, x3, x4, x5, x6, x7⟩ := (b6.ext hx).c8; go_simp <;> with_reducible rfl)
      simp only [pA, pB, pC, pD]
      apply uF 1 (by kernel_rfl) (by rfl) (by rfl) (by rfl)
      ·(intro w' hx; obtain ⟨x0, x1, x2, x3, x4, x5, x6, x7⟩ := (b6.ext hx).c8; go_simp <;> with_reducible rfl)
      simp only [pA, pB, pC, pD]
      apply uF 2 (by kernel_rfl) (by rfl) (by rfl) (by rfl)
      ·(intro w' hx; obtain ⟨x0, x1, x2, x3, x4, x5, x6, x7⟩ := (b6.ext hx).c8; go_simp <;> with_reducible rfl)
      simp only [pA, pB, pC, pD]
      refine uL 3 (by kernel_rfl) (by kernel_rfl) (by kernel_rfl) (by rfl) (by rfl) (fun K hK => ?_)
      have hK' := Lib.hid hK
      clear hK
      obtain ⟨b5_0, b5_1, b5_2, b5_3⟩ := b5.c4
      have b5_z := b5.free
      have b5_l := b5.lt
      have k5 := b5.kd
      go_wp2
      refine hK'.out _ _ ?_
      clear hK' K
      refine uEnd (by kernel_rfl) ?_
      go_wp2_with fail
      ((try simp only [Exit.inBlock, Exit.then]); refine bodyPost_ret (v := ?_) ?resultOf rfl ?_; case resultOf => (rw [results_tc rfl]; go_simp; rfl))
      exact ⟨_, by rw [HP.out, HQ.out], by rw [HP.out, HQ.out]; exact RecV.kept (T := []) ⟨_, rfl, hu0⟩ (by (repeat (with_reducible (first | assumption | exact Kept.refl _ _ _ | (apply Kept.setK; rotate_left; (repeat (first | assumption | apply Kd.set | apply Kd.alloc | apply Kd.drew)); decide; omega) | refine Kept.allocK ?_ _ | refine Kept.drewK ?_)))), by (repeat (with_reducible (first | assumption | exact Below.refl _ _ | refine Below.setCell ?_ (by simp <;> omega) _ | refine Below.alloc ?_ (by simp <;> omega) _ | refine Below.drew ?_ | refine below_drewN ?_ _)))⟩
end Go.Proofs.YtdmnmfnmaccmoaaGreatDoor
