/- Walks: store.Own, scrub.One. -/
import Derived.Test.YtdmnmfnmaccmoaaGreatDoorA5
import Derived.Test.YtdmnmfnmaccmoaaGreatDoorPr6
import Derived.Test.YtdmnmfnmaccmoaaGreatDoorIx6
namespace Go.Proofs.YtdmnmfnmaccmoaaGreatDoor
open Go Go.RowKit
set_option maxRecDepth 100000 in
set_option maxHeartbeats 4000000 in
theorem stoOwn_v {T : List TypeId} {base : Nat} {v : Value} {s : Sto} {w : World} (h : StoV T w base v s) (hf : StoF s) :
  Calls Tryz.prog 21 #[v] w fun e w' => ∃ v', e = .returned v' ∧ StoV tS w' 0 v' s ∧ Ext w w' := by
 obtain ⟨A, n, c, E, m, e, F, k, f, rfl, hd, hi, _, _, _, _, _, _⟩ := h.form
 have HF := Lib.hid hf
 clear hf h
 go_enter Tryz.func21, Tryz.ntmps21
 go_upto_region 1 with (fail)
 generalize hwn : World.alloc (World.alloc w _) _ = w1
 have hx : Ext w w1 := by rw [← hwn]; (repeat (with_reducible (first | assumption | exact Below.refl _ _ | refine Below.setCell ?_ (by simp <;> omega) _ | refine Below.alloc ?_ (by simp <;> omega) _ | refine Below.drew ?_ | refine below_drewN ?_ _)))
 have b1 : Box w1 w.heap.size 30 #[.slice A n c, .slice E m e, .slice F k f, .int .i64 s.next] := by rw [← hwn]; exact (Box.new _ _ _ rfl).alloc _
 have b2 : Box w1 (w.heap.size + 1) 30 #[.slice none 0 0, .slice none 0 0, .slice none 0 0, .int .i64 0] := by rw [← hwn]; exact Box.new _ _ _ (by simp)
 clear hwn
 obtain ⟨g2, hg2⟩ : ∃ g, g = w.heap.size + 1 := ⟨_, rfl⟩
 have l2 : w.heap.size < g2 := by omega
 rw [← hg2] at b2 ⊢
 clear hg2
 have he : Ext w1 w1.drew := (Below.refl _ _).drew
 have hd := hd.ext hx
 have hi := hi.ext hx
 have hx := ext_trans hx he
 have hd := hd.ext he
 have hi := hi.ext he
 have b1 := b1.ext he
 have b2 := b2.ext he
 clear he
 refine wp_region_ue 10 [] [0, 1, 3, 4, 6, 7, 8] rfl (by kernel_rfl) (by kernel_rfl) ?_
 generalize w1.drew = D at hx hd hi b1 b2 ⊢
 apply uF 0 (by kernel_rfl) (by rfl) (by rfl) (by rfl)
 ·(intro w' hx; obtain ⟨x0, x1, x2, x3⟩ := (b1.ext hx).c4; go_simp <;> with_reducible rfl)
 simp only [pA, pB, pC, pD]
 apply uF 1 (by kernel_rfl) (by rfl) (by rfl) (by rfl)
 ·(intro w' hx; obtain ⟨x0, x1, x2, x3⟩ := (b1.ext hx).c4; go_simp <;> with_reducible rfl)
 simp only [pA, pB, pC, pD]
 apply uF 3 (by kernel_rfl) (by rfl) (by rfl) (by rfl)
 ·(intro w' hx; obtain ⟨x0, x1, x2, x3⟩ := (b1.ext hx).c4; go_simp <;> with_reducible rfl)
 simp only [pA, pB, pC, pD]
 apply uF 4 (by kernel_rfl) (by rfl) (by rfl) (by rfl)
 ·(intro w' hx; obtain ⟨x0, x1, x2, x3⟩ := (b1.ext hx).c4; go_simp <;> with_reducible rfl)
 simp only [pA, pB, pC, pD]
 apply uF 6 (by kernel_rfl) (by rfl) (by rfl) (by rfl)
 ·(intro w' hx; obtain ⟨x0, x1, x2, x3⟩ := (b1.ext hx).c4; go_simp <;> with_reducible rfl)
 simp only [pA, pB, pC, pD]
 apply uF 7 (by kernel_rfl) (by rfl) (by rfl) (by rfl)
 ·(intro w' hx; obtain ⟨x0, x1, x2, x3⟩ := (b1.ext hx).c4; go_simp <;> with_reducible rfl)
 simp only [pA, pB, pC, pD]
 refine uS 2 (by kernel_rfl) (by kernel_rfl) (by rfl) (by rfl) (fun K hK => ?_)
 go_wp2_with (go_at_call 46; refine (dskOwn_v hd HF.out.disk.ok).mono ?_; rintro e w2 ⟨v2, rfl, o2, he⟩)
 refine hK.out _ _ (he) ?_
 clear hK K
 try simp only [pA, pB, pC, pD]
 have d2 := o2.v
 clear o2 hd b1
 obtain ⟨A2, n2, c2, E2, m2, e2, rfl, _, _, _, _, _, _⟩ := d2.form
 have hx := ext_trans hx he
 have hi := hi.ext he
 have b2 := b2.ext he
 clear he
 refine uS 5 (by kernel_rfl) (by kernel_rfl) (by rfl) (by rfl) (fun K hK => ?_)
 go_wp2_with (go_at_call 27; refine (ixOwn_v hi HF.out.len HF.out.small).mono ?_; rintro e w3 ⟨v3, rfl, o3, he⟩)
 refine hK.out _ _ (he) ?_
 clear hK K
 try simp only [pA, pB, pC, pD]
 have r3 := o3.row (T := tS) (base := 0) (by decide) (Nat.le_refl _)
 clear o3 hi
 obtain ⟨A3, n3, c3, rfl, _, _, _⟩ := r3.form
 have hx := ext_trans hx he
 have b2 := b2.ext he
 have d2 := d2.ext he
 clear he
 apply uF 8 (by kernel_rfl) (by rfl) (by rfl) (by rfl)
 ·(intro w' hx; go_simp <;> with_reducible rfl)
 simp only [pA, pB, pC, pD]
 refine uL 9 (by kernel_rfl) (by kernel_rfl) (by kernel_rfl) (by rfl) (by rfl) (fun K hK => ?_)
 have hK' := Lib.hid hK
 clear hK
 have k2 := b2.kd
 obtain ⟨b2_0, b2_1, b2_2, b2_3⟩ := b2.c4
 have b2_z := b2.free
 have b2_l := b2.lt
 go_wp2
 refine hK'.out _ _ ?_
 clear hK' K
 refine uEnd (by kernel_rfl) ?_
 go_wp2_with fail
 ((try simp only [Exit.inBlock, Exit.then]); refine bodyPost_ret (v := ?_) ?resultOf rfl ?_; case resultOf => (rw [results_cell1 rfl]; go_simp; rfl))
 try clear b2_0 b2_1 b2_2 b2_3 b2_z b2_l
 refine ⟨_, rfl, ?_, by (repeat (with_reducible (first | assumption | exact Below.refl _ _ | refine Below.setCell ?_ (by simp <;> omega) _ | refine Below.alloc ?_ (by simp <;> omega) _ | refine Below.drew ?_ | refine below_drewN ?_ _)))⟩
 exact StoV.mk ((d2.sub tDS (Nat.le_refl _)).kept (by (repeat (with_reducible (first | assumption | exact Kept.refl _ _ _ | (apply Kept.setK; rotate_left; (repeat (first | assumption | apply Kd.set | apply Kd.alloc | apply Kd.drew)); decide; omega) | refine Kept.allocK ?_ _ | refine Kept.drewK ?_))))) (r3.kept (by (repeat (with_reducible (first | assumption | exact Kept.refl _ _ _ | (apply Kept.setK; rotate_left; (repeat (first | assumption | apply Kd.set | apply Kd.alloc | apply Kd.drew)); decide; omega) | refine Kept.allocK ?_ _ | refine Kept.drewK ?_))))) rfl
set_option maxRecDepth 100000 in
set_option maxHeartbeats 4000000 in
theorem scOne_v {T : List TypeId} {base : Nat} {v : Value} {s : Sto} {w : World} (h : StoV T w base v s) (g : sGood s) :
  Calls Tryz.prog 23 #[v] w fun e w' => ∃ v', e = .returned (.tuple #[v', .int .i64 (scOne s).2]) ∧ StoV tS w' 0 v' (scOne s).1 ∧ Ext w w' := by
 obtain ⟨A, n, c, E, m, e, F, k, f, rfl, hd, hi, HN, _, _, _, _, _⟩ := h.form
 have HF := Lib.hid g.fine
 obtain rfl : n = 12 := HN.out.trans g.disk.len
 have hn0 := g.next
 have HNX := Lib.hid (show (scOne s).1.next = (s.next + 1) % 6 by rw [scOne_good g])
 have HDK := Lib.hid (show (scOne s).1.disk = dFlush (pMend s.disk s.next).1 from rfl)
 have HIX := Lib.hid (show (scOne s).1.index = iScan (dFlush (pMend s.disk s.next).1) from rfl)
 have HHW := Lib.hid (show (scOne s).2 = (pMend s.disk s.next).2 from rfl)
 rw [HHW.out]
 clear HN g HHW
 go_enter Tryz.func23, Tryz.ntmps23
 go_upto_region 1 with (fail)
 generalize hwn : World.alloc (World.alloc w _) _ = w1
 have hx : Ext w w1 := by rw [← hwn]; (repeat (with_reducible (first | assumption | exact Below.refl _ _ | refine Below.setCell ?_ (by simp <;> omega) _ | refine Below.alloc ?_ (by simp <;> omega) _ | refine Below.drew ?_ | refine below_drewN ?_ _)))
 have b1 : Box w1 w.heap.size 30 #[.slice A 12 c, .slice E m e, .slice F k f, .int .i64 s.next] := by rw [← hwn]; exact (Box.new _ _ _ rfl).alloc _
 have b2 : Box w1 (w.heap.size + 1) 30 #[.slice none 0 0, .slice none 0 0, .slice none 0 0, .int .i64 0] := by rw [← hwn]; exact Box.new _ _ _ (by simp)
 clear hwn
 obtain ⟨g2, hg2⟩ : ∃ g, g = w.heap.size + 1 := ⟨_, rfl⟩
 have l2 : w.heap.size < g2 := by omega
 rw [← hg2] at b2 ⊢
 clear hg2
 have h := h.ext hx
 have hd := hd.ext hx
 obtain ⟨b1_0, b1_1, b1_2, b1_3⟩ := b1.c4
 have b1_z := b1.free
 have b1_l := b1.lt
 go_wp2_with fail
 refine (stoOwn_v h HF.out).mono ?_
 rintro e2 w2 ⟨v2, rfl, s2, he⟩
 try clear b1_0 b1_1 b1_2 b1_3 b1_z b1_l
 have hx := ext_trans hx he
 have hd := hd.ext he
 have b1 := b1.ext he
 have b2 := b2.ext he
 clear he
 obtain ⟨A2, n2, c2, E2, m2, e2, F2, k2, f2, rfl, _, _, _, _, _, _, _, _⟩ := s2.form
 clear s2 h hi
 go_upto_region 2 with (fail)
 generalize hwn : World.alloc w2 _ = w3
 have he : Ext w2 w3 := by rw [← hwn]; exact ext_alloc _ _
 have b4 : Box w3 w2.heap.size 30 #[.slice A2 n2 c2, .slice E2 m2 e2, .slice F2 k2 f2, .int .i64 s.next] := by rw [← hwn]; exact Box.new _ _ _ (by simp)
 clear hwn
 have l4 := b2.lt
 have hx := ext_trans hx he
 have hd := hd.ext he
 have b1 := b1.ext he
 have b2 := b2.ext he
 clear he
 obtain ⟨g4, hg4⟩ : ∃ g, g = w2.heap.size := ⟨_, rfl⟩
 rw [← hg4] at b4 l4 ⊢
 clear hg4
 obtain ⟨b1_0, b1_1, b1_2, b1_3⟩ := b1.c4
 have b1_z := b1.free
 have b1_l := b1.lt
 go_wp2_with fail
 refine (mend_v (p := s.next) hd HF.out.disk.ok (by have := HF.out.disk.late; omega)).mono ?_
 rintro e3 w3 ⟨v3, q3, rfl, HQ3, d3, he⟩
 try clear b1_0 b1_1 b1_2 b1_3 b1_z b1_l
 have hx := ext_trans hx he
 have b1 := b1.ext he
 have b2 := b2.ext he
 have b4 := b4.ext he
 clear he
 obtain ⟨A3, n3, c3, E3, m3, e3, rfl, _, _, _, _, _, _⟩ := d3.form
 have HM := Lib.hid (HF.out.disk.mend (by omega) s.next)
 have HQ := Lib.hid HQ3.out.symm
 clear HQ3 hd
 go_upto_region 3 with (fail)
 generalize hwn : World.alloc w3 _ = w4
 have he : Ext w3 w4 := by rw [← hwn]; exact ext_alloc _ _
 have b5 : Box w4 w3.heap.size 27 #[.slice A3 n3 c3, .slice E3 m3 e3] := by rw [← hwn]; exact Box.new _ _ _ (by simp)
 clear hwn
 have hx := ext_trans hx he
 have b1 := b1.ext he
 have b2 := b2.ext he
 have b4 := b4.ext he
 have d3 := d3.ext he
 clear he
 obtain ⟨b5_0, b5_1⟩ := b5.c2
 have b5_z := b5.free
 have b5_l := b5.lt
 go_wp2_with fail
 refine (dskFlush_v d3 HM.out.ok HM.out.inn).mono ?_
 rintro e5 w5 ⟨v5, rfl, o5, he⟩
 try clear b5_0 b5_1 b5_z b5_l
 have hx := ext_trans hx he
 have b1 := b1.ext he
 have b2 := b2.ext he
 have b4 := b4.ext he
 have b5 := b5.ext he
 clear he
 have d5 := o5.v
 clear o5 d3 b5
 obtain ⟨A5, n5, c5, E5, m5, e5, rfl, _, _, _, _, _, _⟩ := d5.form
 have HM5 := Lib.hid HM.out.flush
 have k4 := b4.kd
 have hwr : IntKind.wrap .i64 (s.next + 1) = s.next + 1 := by rw [IntKind.wrap_i64]; omega
 obtain ⟨b1_0, b1_1, b1_2, b1_3⟩ := b1.c4
 have b1_z := b1.free
 have b1_l := b1.lt
 obtain ⟨b4_0, b4_1, b4_2, b4_3⟩ := b4.c4
 have b4_z := b4.free
 have b4_l := b4.lt
 go_upto_region 5 with (fail)
 try clear b1_0 b1_1 b1_2 b1_3 b1_z b1_l b4_0 b4_1 b4_2 b4_3 b4_z b4_l
 have hmx : max (6 : Int) 1 = 6 := rfl
 rw [hmx]
 generalize hwn : World.setCell (World.setCell (World.setCell w5 _ _) _ _) _ _ = w6
 have b2 : Box w6 g2 30 #[.slice none 0 0, .slice none 0 0, .slice none 0 0, .int .i64 0] := by rw [← hwn]; (repeat (with_reducible (first | assumption | refine Box.alloc ?_ _ | refine Box.setOther ?_ (by simp <;> omega) _)))
 have d5 : DskV tD w6 0 (.agg #[.slice A5 n5 c5, .slice E5 m5 e5]) (dFlush (pMend s.disk s.next).1) := d5.kept (by rw [← hwn]; (repeat (with_reducible (first | assumption | exact Kept.refl _ _ _ | (apply Kept.setK; rotate_left; (repeat (first | assumption | apply Kd.set | apply Kd.alloc | apply Kd.drew)); decide; omega) | refine Kept.allocK ?_ _ | refine Kept.drewK ?_))))
 have hx : Ext w w6 := by rw [← hwn]; (repeat (with_reducible (first | assumption | exact Below.refl _ _ | refine Below.setCell ?_ (by simp <;> omega) _ | refine Below.alloc ?_ (by simp <;> omega) _ | refine Below.drew ?_ | refine below_drewN ?_ _)))
 have b4 : Box w6 g4 30 #[.slice A5 n5 c5, .slice E5 m5 e5, .slice F2 k2 f2, .int .i64 ((s.next + 1) % 6)] := by rw [← hwn]; exact ((b4.set 0 _).set 1 _).set 3 _
 clear hwn k4 b1
 obtain ⟨b4_0, b4_1, b4_2, b4_3⟩ := b4.c4
 have b4_z := b4.free
 have b4_l := b4.lt
 go_wp2_with fail
 refine (ixScan_v d5 HM5.out.ok).mono ?_
 rintro e7 w7 ⟨v7, rfl, o7, he⟩
 try clear b4_0 b4_1 b4_2 b4_3 b4_z b4_l
 have hx := ext_trans hx he
 have d5 := d5.ext he
 have b2 := b2.ext he
 have b4 := b4.ext he
 clear he
 have r7 := o7.row (T := tS) (base := 0) (by decide) (Nat.le_refl _)
 clear o7
 obtain ⟨A7, n7, c7, rfl, _, _, _⟩ := r7.form
 have k4 := b4.kd
 obtain ⟨b4_0, b4_1, b4_2, b4_3⟩ := b4.c4
 have b4_z := b4.free
 have b4_l := b4.lt
 go_upto_region 6 with (fail)
 try clear b4_0 b4_1 b4_2 b4_3 b4_z b4_l
 generalize hwn : World.setCell w7 _ _ = w8
 have b2 : Box w8 g2 30 #[.slice none 0 0, .slice none 0 0, .slice none 0 0, .int .i64 0] := by rw [← hwn]; (repeat (with_reducible (first | assumption | refine Box.alloc ?_ _ | refine Box.setOther ?_ (by simp <;> omega) _)))
 have d5 : DskV tD w8 0 (.agg #[.slice A5 n5 c5, .slice E5 m5 e5]) (dFlush (pMend s.disk s.next).1) := d5.kept (by rw [← hwn]; (repeat (with_reducible (first | assumption | exact Kept.refl _ _ _ | (apply Kept.setK; rotate_left; (repeat (first | assumption | apply Kd.set | apply Kd.alloc | apply Kd.drew)); decide; omega) | refine Kept.allocK ?_ _ | refine Kept.drewK ?_))))
 have r7 : Row eEnt tS w8 0 (.slice A7 n7 c7) (iScan (dFlush (pMend s.disk s.next).1)) := r7.kept (by rw [← hwn]; (repeat (with_reducible (first | assumption | exact Kept.refl _ _ _ | (apply Kept.setK; rotate_left; (repeat (first | assumption | apply Kd.set | apply Kd.alloc | apply Kd.drew)); decide; omega) | refine Kept.allocK ?_ _ | refine Kept.drewK ?_))))
 have hx : Ext w w8 := by rw [← hwn]; (repeat (with_reducible (first | assumption | exact Below.refl _ _ | refine Below.setCell ?_ (by simp <;> omega) _ | refine Below.alloc ?_ (by simp <;> omega) _ | refine Below.drew ?_ | refine below_drewN ?_ _)))
 have b4 : Box w8 g4 30 #[.slice A5 n5 c5, .slice E5 m5 e5, .slice A7 n7 c7, .int .i64 ((s.next + 1) % 6)] := by rw [← hwn]; exact b4.set 2 _
 clear hwn k4
 have kb := b2.kd
 obtain ⟨b2_0, b2_1, b2_2, b2_3⟩ := b2.c4
 have b2_z := b2.free
 have b2_l := b2.lt
 obtain ⟨b4_0, b4_1, b4_2, b4_3⟩ := b4.c4
 have b4_z := b4.free
 have b4_l := b4.lt
 go_wp2_with fail
 ((try simp only [Exit.inBlock, Exit.then]); refine bodyPost_ret (v := ?_) ?resultOf rfl ?_; case resultOf => (rw [results_cell_tmp rfl]; go_simp; rfl))
 try clear b2_0 b2_1 b2_2 b2_3 b2_z b2_l b4_0 b4_1 b4_2 b4_3 b4_z b4_l
 refine ⟨_, by rw [HQ.out], ?_, by (repeat (with_reducible (first | assumption | exact Below.refl _ _ | refine Below.setCell ?_ (by simp <;> omega) _ | refine Below.alloc ?_ (by simp <;> omega) _ | refine Below.drew ?_ | refine below_drewN ?_ _)))⟩
 exact StoV.mk (by rw [HDK.out]; exact (d5.sub tDS (Nat.le_refl _)).kept (by (repeat (with_reducible (first | assumption | exact Kept.refl _ _ _ | (apply Kept.setK; rotate_left; (repeat (first | assumption | apply Kd.set | apply Kd.alloc | apply Kd.drew)); decide; omega) | refine Kept.allocK ?_ _ | refine Kept.drewK ?_))))) (by rw [HIX.out]; exact r7.kept (by (repeat (with_reducible (first | assumption | exact Kept.refl _ _ _ | (apply Kept.setK; rotate_left; (repeat (first | assumption | apply Kd.set | apply Kd.alloc | apply Kd.drew)); decide; omega) | refine Kept.allocK ?_ _ | refine Kept.drewK ?_))))) HNX.out
end Go.Proofs.YtdmnmfnmaccmoaaGreatDoor
