/- The statement ScrubTells: the walk of the law. -/
import Derived.Test.YtpidjkadpnjahaaSc9
import Derived.Test.YtpidjkadpnjahaaSc8
import Derived.Test.YtpidjkadpnjahaaFs7
namespace Go.Proofs.Ytpidjkadpnjahaa
open Go Go.RowKit
set_option maxRecDepth 100000 in
set_option maxHeartbeats 4000000 in
theorem scrubTells_law (w : World) {v : Value} {l : List Stp} (hl : Row eStp [] w w.heap.size v l) :
  Calls Try.prog 12 #[v] w fun e w' => e = .returned (.bool true) ∧ Ext w w' := by
 obtain ⟨A, n, c, rfl, _, _, _⟩ := hl.form
 have hx : Ext w w := Below.refl _ _
 go_enter Try.func12, Try.ntmps12
 go_wp2_with fail
 refine (refPlay_v hl).mono ?_
 rintro e1 w1 ⟨v1, es, ns, rfl, s1, _, _, he⟩
 have hx := ext_trans hx he
 clear he
 clear hl
 have HG := Lib.hid (yPlay_good (l.take 100))
 generalize yPlay (l.take 100) = s at s1 HG
 obtain ⟨A3, n3, c3, E3, m3, e3, F3, k3, f3, rfl, _, _, _, _, _, _, _, _⟩ := s1.form
 go_upto_region 2 with (fail)
 generalize hwn : World.alloc w1 _ = w2
 have he : Ext w1 w2 := by rw [← hwn]; exact ext_alloc _ _
 have b3 : Box w2 w1.heap.size 100 #[.slice A3 n3 c3, .slice E3 m3 e3, .slice F3 k3 f3, .int .i64 s.next] := by rw [← hwn]; exact Box.new _ _ _ (by simp)
 clear hwn
 have l3 := hx.size
 have hx := ext_trans hx he
 have s1 := s1.ext he
 clear he
 obtain ⟨g3, hg3⟩ : ∃ g, g = w1.heap.size := ⟨_, rfl⟩
 rw [← hg3] at b3 l3 ⊢
 clear hg3
 obtain ⟨b3_0, b3_1, b3_2, b3_3⟩ := b3.c4
 have b3_z := b3.free
 have b3_l := b3.lt
 go_wp2_with fail
 refine (scOne_v s1 HG.out).mono ?_
 rintro e2 w3 ⟨v2, rfl, s2, he⟩
 try clear b3_0 b3_1 b3_2 b3_3 b3_z b3_l
 have hx := ext_trans hx he
 have s1 := s1.ext he
 have b3 := b3.ext he
 clear he
 obtain ⟨A6, n6, c6, E6, m6, e6, F6, k6, f6, rfl, _, _, _, _, _, _, _, _⟩ := s2.form
 go_upto_region 3 with (fail)
 generalize hwn : World.alloc w3 _ = w4
 have he : Ext w3 w4 := by rw [← hwn]; exact ext_alloc _ _
 have b6 : Box w4 w3.heap.size 100 #[.slice A6 n6 c6, .slice E6 m6 e6, .slice F6 k6 f6, .int .i64 (scOne s).1.next] := by rw [← hwn]; exact Box.new _ _ _ (by simp)
 clear hwn
 have hx := ext_trans hx he
 have s1 := s1.ext he
 have s2 := s2.ext he
 have b3 := b3.ext he
 clear he
 obtain ⟨b3_0, b3_1, b3_2, b3_3⟩ := b3.c4
 have b3_z := b3.free
 have b3_l := b3.lt
 go_wp2_with fail
 refine (refScrub_v hx.size s1 HG.out).mono ?_
 rintro e5 w5 ⟨v5, rfl, s5, he⟩
 try clear b3_0 b3_1 b3_2 b3_3 b3_z b3_l
 have hx := ext_trans hx he
 have s1 := s1.ext he
 have s2 := s2.ext he
 have b3 := b3.ext he
 have b6 := b6.ext he
 clear he
 obtain ⟨A8, n8, c8, E8, m8, e8, F8, k8, f8, rfl, _, _, _, _, _, _, _, _⟩ := s5.form
 go_upto_region 4 with (fail)
 generalize hwn : World.alloc w5 _ = w6
 have he : Ext w5 w6 := by rw [← hwn]; exact ext_alloc _ _
 have b8 : Box w6 w5.heap.size 100 #[.slice A8 n8 c8, .slice E8 m8 e8, .slice F8 k8 f8, .int .i64 (scOne s).1.next] := by rw [← hwn]; exact Box.new _ _ _ (by simp)
 clear hwn
 have hx := ext_trans hx he
 have s1 := s1.ext he
 have s2 := s2.ext he
 have s5 := s5.ext he
 have b3 := b3.ext he
 have b6 := b6.ext he
 clear he
 have hd : Ext w6 w6.drew := (Below.refl _ _).drew
 have hx := ext_trans hx hd
 have s1 := s1.ext hd
 have s2 := s2.ext hd
 have s5 := s5.ext hd
 have b3 := b3.ext hd
 have b6 := b6.ext hd
 have b8 := b8.ext hd
 clear hd
 obtain ⟨_, _, _, _, _, _, _, _, _, e0, d1, _, _, _, _, _, _, _⟩ := s1.form
 cases e0
 have HF := Lib.hid (good_fine HG.out.disk)
 have H6 := Lib.hid (show s.disk.blocks.length / 2 = 6 by rw [HG.out.disk.len])
 refine wp_region_ext 18 [0, 1, 2, 3, 4, 5, 7, 8, 9, 10, 11, 13, 14, 16, 17] false rfl (by kernel_rfl) (by kernel_rfl) ?_
 generalize w6.drew = D at hx s1 s2 s5 b3 b6 b8 d1 ⊢
 have qh : ((scOne s).2 != (scOne s).2) = false := by simp
 apply mixF 0 (by kernel_rfl) (by rfl) (by rfl)
 ·(intro w' hx; obtain ⟨x0, x1, x2, x3⟩ := (b6.ext hx).c4; obtain ⟨y0, y1, y2, y3⟩ := (b8.ext hx).c4; go_simp <;> with_reducible rfl)
 simp only [pA, pB, pC, pD]
 apply mixF 1 (by kernel_rfl) (by rfl) (by rfl)
 ·(intro w' hx; obtain ⟨x0, x1, x2, x3⟩ := (b6.ext hx).c4; obtain ⟨y0, y1, y2, y3⟩ := (b8.ext hx).c4; go_simp <;> with_reducible rfl)
 simp only [pA, pB, pC, pD]
 apply mixF 2 (by kernel_rfl) (by rfl) (by rfl)
 ·(intro w' hx; obtain ⟨x0, x1, x2, x3⟩ := (b6.ext hx).c4; obtain ⟨y0, y1, y2, y3⟩ := (b8.ext hx).c4; go_simp <;> with_reducible rfl)
 simp only [pA, pB, pC, pD]
 apply mixF 3 (by kernel_rfl) (by rfl) (by rfl)
 ·(intro w' hx; obtain ⟨x0, x1, x2, x3⟩ := (b6.ext hx).c4; obtain ⟨y0, y1, y2, y3⟩ := (b8.ext hx).c4; go_simp <;> with_reducible rfl)
 simp only [pA, pB, pC, pD]
 apply mixF 4 (by kernel_rfl) (by rfl) (by rfl)
 ·(intro w' hx; obtain ⟨x0, x1, x2, x3⟩ := (b6.ext hx).c4; obtain ⟨y0, y1, y2, y3⟩ := (b8.ext hx).c4; go_simp <;> with_reducible rfl)
 simp only [pA, pB, pC, pD]
 apply mixF 5 (by kernel_rfl) (by rfl) (by rfl)
 ·(intro w' hx; obtain ⟨x0, x1, x2, x3⟩ := (b6.ext hx).c4; obtain ⟨y0, y1, y2, y3⟩ := (b8.ext hx).c4; go_simp <;> with_reducible rfl)
 simp only [pA, pB, pC, pD]
 clear qh b6 b8
 refine mixS 6 (by kernel_rfl) (by kernel_rfl) (by rfl) (by rfl) (fun K hK => ?_)
 go_wp2_with (go_at_call 90; refine (sameStore_v s2 s5).mono ?_; rintro e w7 ⟨rfl, he⟩)
 refine hK.out _ _ (he) ?_
 clear hK K
 try simp only [pA, pB, pC, pD]
 have hx := ext_trans hx he
 have s1 := s1.ext he
 have b3 := b3.ext he
 have d1 := d1.ext he
 clear he s2 s5
 apply mixF 7 (by kernel_rfl) (by rfl) (by rfl)
 ·(intro w' hx; obtain ⟨x0, x1, x2, x3⟩ := (b3.ext hx).c4; go_simp <;> with_reducible rfl)
 simp only [pA, pB, pC, pD]
 apply mixF 8 (by kernel_rfl) (by rfl) (by rfl)
 ·(intro w' hx; obtain ⟨x0, x1, x2, x3⟩ := (b3.ext hx).c4; go_simp <;> with_reducible rfl)
 simp only [pA, pB, pC, pD]
 apply mixF 9 (by kernel_rfl) (by rfl) (by rfl)
 ·(intro w' hx; obtain ⟨x0, x1, x2, x3⟩ := (b3.ext hx).c4; go_simp <;> with_reducible rfl)
 simp only [pA, pB, pC, pD]
 apply mixF 10 (by kernel_rfl) (by rfl) (by rfl)
 ·(intro w' hx; obtain ⟨x0, x1, x2, x3⟩ := (b3.ext hx).c4; go_simp <;> with_reducible rfl)
 simp only [pA, pB, pC, pD]
 apply mixF 11 (by kernel_rfl) (by rfl) (by rfl)
 ·(intro w' hx; obtain ⟨x0, x1, x2, x3⟩ := (b3.ext hx).c4; go_simp <;> with_reducible rfl)
 simp only [pA, pB, pC, pD]
 apply mixF 13 (by kernel_rfl) (by rfl) (by rfl)
 ·(intro w' hx; obtain ⟨x0, x1, x2, x3⟩ := (b3.ext hx).c4; go_simp <;> with_reducible rfl)
 simp only [pA, pB, pC, pD]
 apply mixF 14 (by kernel_rfl) (by rfl) (by rfl)
 ·(intro w' hx; obtain ⟨x0, x1, x2, x3⟩ := (b3.ext hx).c4; go_simp <;> with_reducible rfl)
 simp only [pA, pB, pC, pD]
 refine mixS 12 (by kernel_rfl) (by kernel_rfl) (by rfl) (by rfl) (fun K hK => ?_)
 go_wp2_with (go_at_call 91; refine (scLook_v d1 HF.out.ok).mono ?_; rintro e w8 ⟨rfl, he⟩)
 refine hK.out _ _ (he) ?_
 clear hK K
 try simp only [pA, pB, pC, pD]
 rw [H6.out]
 have hx := ext_trans hx he
 have s1 := s1.ext he
 have b3 := b3.ext he
 have d1 := d1.ext he
 clear he
 refine mixS 15 (by kernel_rfl) (by kernel_rfl) (by rfl) (by rfl) (fun K hK => ?_)
 go_wp2_with (go_at_call 92; refine (refReport_v d1 HF.out.ok).mono ?_; rintro e w9 ⟨rfl, he⟩)
 refine hK.out _ _ (he) ?_
 clear hK K
 try simp only [pA, pB, pC, pD]
 have hx := ext_trans hx he
 have s1 := s1.ext he
 have b3 := b3.ext he
 clear he d1
 generalize scHows s.disk 6 = hw
 have rs := fun w => rep_same hw w
 unfold repC at rs ⊢
 apply mixF 16 (by kernel_rfl) (by rfl) (by rfl)
 ·(intro w' hx; go_simp <;> with_reducible rfl)
 simp only [pA, pB, pC, pD]
 apply mixF 17 (by kernel_rfl) (by rfl) (by rfl)
 ·(intro w' hx; go_simp <;> with_reducible rfl)
 simp only [pA, pB, pC, pD]
 refine mixEnd (by kernel_rfl) ?_
 obtain ⟨b3_0, b3_1, b3_2, b3_3⟩ := b3.c4
 have b3_z := b3.free
 have b3_l := b3.lt
 go_wp2_with fail
 refine (scAll_v hx.size s1 HG.out).mono ?_
 rintro e10 w10 ⟨v10, rfl, s10, he⟩
 try clear b3_0 b3_1 b3_2 b3_3 b3_z b3_l
 have hx := ext_trans hx he
 have s1 := s1.ext he
 have b3 := b3.ext he
 clear he
 obtain ⟨A10, n10, c10, E10, m10, e10, F10, k10, f10, rfl, _, _, _, _, _, _, _, _⟩ := s10.form
 unfold repC
 go_upto_region 8 with (fail)
 generalize hwn : World.alloc (World.alloc (World.alloc w10 _) _) _ = w11
 have he : Ext w10 w11 := by rw [← hwn]; exact ((ext_alloc _ _).alloc (by simp) _).alloc (by simp <;> omega) _
 have b10 : Box w11 w10.heap.size 100 #[.slice A10 n10 c10, .slice E10 m10 e10, .slice F10 k10 f10, .int .i64 (scTo s 6).1.next] := by rw [← hwn]; exact ((Box.new _ _ _ (by simp)).alloc _).alloc _
 have b11 : Box w11 (w10.heap.size + 1) 89 (repC (scTo s 6).2) := by rw [← hwn]; exact (Box.new _ _ _ (by simp)).alloc _
 have b12 : Box w11 (w10.heap.size + 2) 89 (repC []) := by rw [← hwn]; exact Box.new _ _ _ (by simp)
 clear hwn
 have l10 := b3.lt
 have hx := ext_trans hx he
 have s1 := s1.ext he
 have s10 := s10.ext he
 have b3 := b3.ext he
 clear he
 obtain ⟨g12, hg12⟩ : ∃ g, g = w10.heap.size + 2 := ⟨_, rfl⟩
 obtain ⟨g11, hg11⟩ : ∃ g, g = w10.heap.size + 1 := ⟨_, rfl⟩
 obtain ⟨g10, hg10⟩ : ∃ g, g = w10.heap.size := ⟨_, rfl⟩
 rw [← hg12] at b12 ⊢
 rw [← hg11] at b11 ⊢
 rw [← hg10]
 rw [show Box w11 w10.heap.size 100 #[.slice A10 n10 c10, .slice E10 m10 e10, .slice F10 k10 f10, .int .i64 (scTo s 6).1.next] ↔ Box w11 g10 100 #[.slice A10 n10 c10, .slice E10 m10 e10, .slice F10 k10 f10, .int .i64 (scTo s 6).1.next] by rw [hg10]] at b10
 have l11 : g3 < g10 := by omega
 have l12 : g10 < g11 := by omega
 have l13 : g11 < g12 := by omega
 clear hg10 hg11 hg12 l10
 have HG := Lib.hid (scTo_sGood HG.out)
 obtain ⟨u, hu⟩ : ∃ u, u = (scTo s 6).1 := ⟨_, rfl⟩
 obtain ⟨hu2, hhu2⟩ : ∃ u, u = (scTo s 6).2 := ⟨_, rfl⟩
 rw [← hu] at b10 s10
 rw [← hhu2] at b11
 have HU := Lib.hid (And.intro hu hhu2)
 clear hu hhu2 s2 s5 HF H6
 go_wp2_with fail
 go_loopw [54] (fun i wr => ∃ a : Nat, a ≤ 6 ∧ i = .int .i64 a ∧ (∃ A n c E m e F k f, Box wr g3 100 #[.slice A n c, .slice E m e, .slice F k f, .int .i64 (scTo s a).1.next] ∧ StoV tS wr w.heap.size (.agg #[.slice A n c, .slice E m e, .slice F k f, .int .i64 (scTo s a).1.next]) (scTo s a).1) ∧ Box wr g12 89 (repC (scTo s a).2) ∧ Box wr g10 100 #[.slice A10 n10 c10, .slice E10 m10 e10, .slice F10 k10 f10, .int .i64 u.next] ∧ StoV tS wr w.heap.size (.agg #[.slice A10 n10 c10, .slice E10 m10 e10, .slice F10 k10 f10, .int .i64 u.next]) u ∧ Box wr g11 89 (repC hu2) ∧ Ext w wr) (fun i _ => 6 - (intOf i).toNat)
 case atStart => exact ⟨0, by omega, rfl, ⟨_, _, _, _, _, _, _, _, _, b3, s1⟩, b12, b10, s10, b11, hx⟩
 case round =>
  clear hx b3 s1 b12 b10 s10 b11
  obtain ⟨a, ha, rfl, ⟨A1, n1, c1, E1, m1, e1, F1, k1, f1, b3, s1⟩, b12, b10, s10, b11, hx⟩ := hrel
  have hz := hx.size
  by_cases hlt : a < 6
  ·have i1 : (a : Int) < 6 := by omega
   have HGA := Lib.hid (HG.out a)
   have HS := Lib.hid (show (scTo s (a + 1)).1 = (scOne (scTo s a).1).1 ∧ (scTo s (a + 1)).2 = (scTo s a).2 ++ [(scOne (scTo s a).1).2] from ⟨rfl, rfl⟩)
   have hlen := scTo_len s a
   generalize (scTo s a).1 = y at b3 s1 HGA HS
   generalize (scTo s a).2 = hs at b12 HS hlen
   obtain ⟨b3_0, b3_1, b3_2, b3_3⟩ := b3.c4
   have b3_z := b3.free
   have b3_l := b3.lt
   go_wp2_with fail
   refine (refScrub_v hx.size s1 HGA.out).mono ?_
   rintro e2 w2 ⟨v2, rfl, s2, he⟩
   try clear b3_0 b3_1 b3_2 b3_3 b3_z b3_l
   have hx := ext_trans hx he
   have b3 := b3.ext he
   have b12 := b12.ext he
   have b10 := b10.ext he
   have s10 := s10.ext he
   have b11 := b11.ext he
   clear he
   clear s1
   obtain ⟨A2, n2, c2, E2, m2, e2, F2, k2, f2, rfl, _, _, _, _, _, _, _, _⟩ := s2.form
   go_upto_region 11 with (fail)
   generalize hwn : World.alloc w2 _ = w3
   have he : Ext w2 w3 := by rw [← hwn]; exact ext_alloc _ _
   have b13 : Box w3 w2.heap.size 100 #[.slice A2 n2 c2, .slice E2 m2 e2, .slice F2 k2 f2, .int .i64 (scOne y).1.next] := by rw [← hwn]; exact Box.new _ _ _ (by simp)
   clear hwn
   have l14 := b12.lt
   have hx := ext_trans hx he
   have s2 := s2.ext he
   have b3 := b3.ext he
   have b12 := b12.ext he
   have b10 := b10.ext he
   have s10 := s10.ext he
   have b11 := b11.ext he
   clear he
   obtain ⟨g13, hg13⟩ : ∃ g, g = w2.heap.size := ⟨_, rfl⟩
   rw [← hg13] at b13 l14 ⊢
   clear hg13
   have kb := b3.kd
   obtain ⟨b3_0, b3_1, b3_2, b3_3⟩ := b3.c4
   have b3_z := b3.free
   have b3_l := b3.lt
   obtain ⟨b13_0, b13_1, b13_2, b13_3⟩ := b13.c4
   have b13_z := b13.free
   have b13_l := b13.lt
   go_upto_region 12 with (fail)
   try clear b3_0 b3_1 b3_2 b3_3 b3_z b3_l b13_0 b13_1 b13_2 b13_3 b13_z b13_l
   generalize hwn : World.setCell (World.setCell (World.setCell (World.setCell w3 _ _) _ _) _ _) _ _ = w4
   have b10 : Box w4 g10 100 #[.slice A10 n10 c10, .slice E10 m10 e10, .slice F10 k10 f10, .int .i64 u.next] := by rw [← hwn]; (repeat (with_reducible (first | assumption | refine Box.alloc ?_ _ | refine Box.setOther ?_ (by simp <;> omega) _)))
   have b11 : Box w4 g11 89 (repC hu2) := by rw [← hwn]; (repeat (with_reducible (first | assumption | refine Box.alloc ?_ _ | refine Box.setOther ?_ (by simp <;> omega) _)))
   have b12 : Box w4 g12 89 (repC hs) := by rw [← hwn]; (repeat (with_reducible (first | assumption | refine Box.alloc ?_ _ | refine Box.setOther ?_ (by simp <;> omega) _)))
   have s2 := s2.kept (w' := w4) (by rw [← hwn]; (repeat (with_reducible (first | assumption | exact Kept.refl _ _ _ | (apply Kept.setK; rotate_left; (repeat (first | assumption | apply Kd.set | apply Kd.alloc | apply Kd.drew)); decide; omega) | refine Kept.allocK ?_ _ | refine Kept.drewK ?_))))
   have s10 := s10.kept (w' := w4) (by rw [← hwn]; (repeat (with_reducible (first | assumption | exact Kept.refl _ _ _ | (apply Kept.setK; rotate_left; (repeat (first | assumption | apply Kd.set | apply Kd.alloc | apply Kd.drew)); decide; omega) | refine Kept.allocK ?_ _ | refine Kept.drewK ?_))))
   have hx : Ext w w4 := by rw [← hwn]; (repeat (with_reducible (first | assumption | exact Below.refl _ _ | refine Below.setCell ?_ (by simp <;> omega) _ | refine Below.alloc ?_ (by simp <;> omega) _ | refine Below.drew ?_ | refine below_drewN ?_ _)))
   have b3 : Box w4 g3 100 #[.slice A2 n2 c2, .slice E2 m2 e2, .slice F2 k2 f2, .int .i64 (scOne y).1.next] := by rw [← hwn]; exact (((b3.set 0 _).set 1 _).set 2 _).set 3 _
   clear hwn kb b13
   obtain ⟨q, hq, hq6⟩ := one_how y
   rw [← HS.out.1] at s2 b3
   have HS := Lib.hid (show (scTo s (a + 1)).2 = hs ++ [(q : Int)] by rw [HS.out.2, hq])
   rw [hq]
   have HQ := Lib.hid (repC_set hs hq6)
   obtain ⟨hr0, hr1⟩ := rc_len hs q
   have x0 := b12.cell q (repC_at hs hq6)
   have xf := b12.free q
   have xl := b12.lt
   have hwr : IntKind.wrap .i64 (rc hs q + 1) = rc hs q + 1 := by rw [IntKind.wrap_i64]; omega
   have q0 : (0 : Int) ≤ (q : Int) := by omega
   have q6 : (q : Int) < 6 := by omega
   generalize rc hs q = z at x0 HQ hr0 hr1 hwr
   rw [hlen] at hr1
   clear hlen hq
   have k4 := b12.kd
   go_wp2_with fail
   refine ⟨⟨a + 1, by omega, rfl, ⟨_, _, _, _, _, _, _, _, _, by (repeat (with_reducible (first | assumption | refine Box.alloc ?_ _ | refine Box.setOther ?_ (by simp <;> omega) _))), s2.kept (by (repeat (with_reducible (first | assumption | exact Kept.refl _ _ _ | (apply Kept.setK; rotate_left; (repeat (first | assumption | apply Kd.set | apply Kd.alloc | apply Kd.drew)); decide; omega) | refine Kept.allocK ?_ _ | refine Kept.drewK ?_))))⟩, ?_, by (repeat (with_reducible (first | assumption | refine Box.alloc ?_ _ | refine Box.setOther ?_ (by simp <;> omega) _))), s10.kept (by (repeat (with_reducible (first | assumption | exact Kept.refl _ _ _ | (apply Kept.setK; rotate_left; (repeat (first | assumption | apply Kd.set | apply Kd.alloc | apply Kd.drew)); decide; omega) | refine Kept.allocK ?_ _ | refine Kept.drewK ?_)))), by (repeat (with_reducible (first | assumption | refine Box.alloc ?_ _ | refine Box.setOther ?_ (by simp <;> omega) _))), by (repeat (with_reducible (first | assumption | exact Below.refl _ _ | refine Below.setCell ?_ (by simp <;> omega) _ | refine Below.alloc ?_ (by simp <;> omega) _ | refine Below.drew ?_ | refine below_drewN ?_ _)))⟩, ?_⟩
   ·rw [HS.out, ← HQ.out]
    exact b12.set _ _
   ·simp only [intOf]
    omega
  ·obtain rfl : a = 6 := by omega
   rw [← HU.out.2] at b12
   rw [← HU.out.1] at b3 s1
   have rs := fun w => rep_same hu2 w
   unfold repC at rs
   obtain ⟨b3_0, b3_1, b3_2, b3_3⟩ := b3.c4
   have b3_z := b3.free
   have b3_l := b3.lt
   obtain ⟨b10_0, b10_1, b10_2, b10_3⟩ := b10.c4
   have b10_z := b10.free
   have b10_l := b10.lt
   obtain ⟨b11_0, b11_1, b11_2, b11_3, b11_4, b11_5⟩ := b11.c6
   have b11_z := b11.free
   have b11_l := b11.lt
   obtain ⟨b12_0, b12_1, b12_2, b12_3, b12_4, b12_5⟩ := b12.c6
   have b12_z := b12.free
   have b12_l := b12.lt
   go_wp2_with fail
   refine (sameStore_v s10 s1).mono ?_
   rintro e7 w7 ⟨rfl, he⟩
   try clear b3_0 b3_1 b3_2 b3_3 b3_z b3_l b10_0 b10_1 b10_2 b10_3 b10_z b10_l b11_0 b11_1 b11_2 b11_3 b11_4 b11_5 b11_z b11_l b12_0 b12_1 b12_2 b12_3 b12_4 b12_5 b12_z b12_l
   have hx := ext_trans hx he
   have b3 := b3.ext he
   have b10 := b10.ext he
   have b11 := b11.ext he
   have b12 := b12.ext he
   clear he
   go_wp2_with fail
   go_ret
   exact ⟨rfl, hx⟩
end Go.Proofs.Ytpidjkadpnjahaa
