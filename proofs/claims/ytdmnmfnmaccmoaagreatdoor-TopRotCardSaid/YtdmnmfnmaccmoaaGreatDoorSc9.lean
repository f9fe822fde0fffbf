/- Walks: scrub.All. -/
import Derived.Test.YtdmnmfnmaccmoaaGreatDoorSc1
import Derived.Test.YtdmnmfnmaccmoaaGreatDoorFs4
namespace Go.Proofs.YtdmnmfnmaccmoaaGreatDoor
open Go Go.RowKit
theorem scTo_len (s : Sto) : ∀ a, (scTo s a).2.length = a
 | 0 => rfl
 | a + 1 => by
  show ((scTo s a).2 ++ [(scOne (scTo s a).1).2]).length = a + 1
  rw [List.length_append, scTo_len s a]
  rfl
theorem one_how (s : Sto) : ∃ h : Nat, (scOne s).2 = (h : Int) ∧ h < 6 := by
 obtain ⟨h, e, h6⟩ := look_how s.disk s.next
 exact ⟨h, (pMend_how _ _).trans e, h6⟩
set_option maxRecDepth 100000 in
set_option maxHeartbeats 4000000 in
theorem scAll_v {base : Nat} {v : Value} {s : Sto} {w : World} (hbase : base ≤ w.heap.size) (h : StoV tS w base v s) (g : sGood s) :
  Calls Tryz.prog 13 #[v] w fun e w' => ∃ v', e = .returned (.tuple #[v', .agg (repC (scTo s 6).2)]) ∧ StoV tS w' base v' (scTo s 6).1 ∧ Ext w w' := by
 obtain ⟨A, n, c, E, m, e, F, k, f, rfl, _, _, HN, _, _, _, _, _⟩ := h.form
 have HG := Lib.hid (scTo_sGood g)
 obtain rfl : n = 12 := HN.out.trans g.disk.len
 clear g HN
 go_enter Tryz.func13, Tryz.ntmps13
 go_upto_region 2 with (fail)
 generalize hwn : World.alloc (World.alloc (World.alloc (World.alloc w _) _) _) _ = w1
 have hx : Ext w w1 := by rw [← hwn]; (repeat (with_reducible (first | assumption | exact Below.refl _ _ | refine Below.setCell ?_ (by simp <;> omega) _ | refine Below.alloc ?_ (by simp <;> omega) _ | refine Below.drew ?_ | refine below_drewN ?_ _)))
 have b1 : Box w1 w.heap.size 30 #[.slice A 12 c, .slice E m e, .slice F k f, .int .i64 s.next] := by rw [← hwn]; exact (((Box.new _ _ _ rfl).alloc _).alloc _).alloc _
 have b2 : Box w1 (w.heap.size + 1) 30 #[.slice none 0 0, .slice none 0 0, .slice none 0 0, .int .i64 0] := by rw [← hwn]; exact ((Box.new _ _ _ (by simp)).alloc _).alloc _
 have b3 : Box w1 (w.heap.size + 2) 50 (repC []) := by rw [← hwn]; exact (Box.new _ _ _ (by simp)).alloc _
 have b4 : Box w1 (w.heap.size + 3) 50 (repC []) := by rw [← hwn]; exact Box.new _ _ _ (by simp)
 clear hwn
 obtain ⟨g4, hg4⟩ : ∃ g, g = w.heap.size + 3 := ⟨_, rfl⟩
 obtain ⟨g3, hg3⟩ : ∃ g, g = w.heap.size + 2 := ⟨_, rfl⟩
 obtain ⟨g2, hg2⟩ : ∃ g, g = w.heap.size + 1 := ⟨_, rfl⟩
 obtain ⟨g1, hg1⟩ : ∃ g, g = w.heap.size := ⟨_, rfl⟩
 rw [← hg4] at b4 ⊢
 rw [← hg3] at b3 ⊢
 rw [← hg2] at b2 ⊢
 rw [← hg1]
 rw [show Box w1 w.heap.size 30 #[.slice A 12 c, .slice E m e, .slice F k f, .int .i64 s.next] ↔ Box w1 g1 30 #[.slice A 12 c, .slice E m e, .slice F k f, .int .i64 s.next] by rw [hg1]] at b1
 have l1 : w.heap.size ≤ g1 := by omega
 have l2 : g1 < g2 := by omega
 have l3 : g2 < g3 := by omega
 have l4 : g3 < g4 := by omega
 clear hg1 hg2 hg3 hg4
 have s1 := h.ext hx
 clear h
 obtain ⟨b1_0, b1_1, b1_2, b1_3⟩ := b1.c4
 have b1_z := b1.free
 have b1_l := b1.lt
 go_upto_region 3 with (fail)
 try clear b1_0 b1_1 b1_2 b1_3 b1_z b1_l
 go_loopw [12] (fun i wr => ∃ a : Nat, a ≤ 6 ∧ i = .int .i64 a ∧ (∃ A n c E m e F k f, Box wr g1 30 #[.slice A n c, .slice E m e, .slice F k f, .int .i64 (scTo s a).1.next] ∧ StoV tS wr base (.agg #[.slice A n c, .slice E m e, .slice F k f, .int .i64 (scTo s a).1.next]) (scTo s a).1) ∧ Box wr g2 30 #[.slice none 0 0, .slice none 0 0, .slice none 0 0, .int .i64 0] ∧ Box wr g3 50 (repC []) ∧ Box wr g4 50 (repC (scTo s a).2) ∧ Ext w wr) (fun i _ => 6 - (intOf i).toNat)
 case atStart => exact ⟨0, by omega, rfl, ⟨_, _, _, _, _, _, _, _, _, b1, s1⟩, b2, b3, b4, hx⟩
 case round =>
  clear hx b1 b2 b3 b4 s1
  obtain ⟨a, ha, rfl, ⟨A1, n1, c1, E1, m1, e1, F1, k1, f1, b1, s1⟩, b2, b3, b4, hx⟩ := hrel
  have hz := hx.size
  have l4z := b4.lt
  by_cases hlt : a < 6
  ·have i1 : (a : Int) < 6 := by omega
   have HGA := Lib.hid (HG.out a)
   have HS := Lib.hid (show (scTo s (a + 1)).1 = (scOne (scTo s a).1).1 ∧ (scTo s (a + 1)).2 = (scTo s a).2 ++ [(scOne (scTo s a).1).2] from ⟨rfl, rfl⟩)
   have hlen := scTo_len s a
   generalize (scTo s a).1 = y at b1 s1 HGA HS
   generalize (scTo s a).2 = hs at b4 HS hlen
   obtain ⟨b1_0, b1_1, b1_2, b1_3⟩ := b1.c4
   have b1_z := b1.free
   have b1_l := b1.lt
   go_wp2_with fail
   refine (scOne_v s1 HGA.out).mono ?_
   rintro e2 w2 ⟨v2, rfl, s2, he⟩
   try clear b1_0 b1_1 b1_2 b1_3 b1_z b1_l
   have hx := ext_trans hx he
   have b1 := b1.ext he
   have b2 := b2.ext he
   have b3 := b3.ext he
   have b4 := b4.ext he
   clear he
   clear s1
   obtain ⟨A2, n2, c2, E2, m2, e2, F2, k2, f2, rfl, _, _, _, _, _, _, _, _⟩ := s2.form
   go_upto_region 5 with (fail)
   generalize hwn : World.alloc w2 _ = w3
   have he : Ext w2 w3 := by rw [← hwn]; exact ext_alloc _ _
   have b5 : Box w3 w2.heap.size 30 #[.slice A2 n2 c2, .slice E2 m2 e2, .slice F2 k2 f2, .int .i64 (scOne y).1.next] := by rw [← hwn]; exact Box.new _ _ _ (by simp)
   clear hwn
   have l5 := b4.lt
   have hx := ext_trans hx he
   have s2 := s2.ext he
   have b1 := b1.ext he
   have b2 := b2.ext he
   have b3 := b3.ext he
   have b4 := b4.ext he
   clear he
   obtain ⟨g5, hg5⟩ : ∃ g, g = w2.heap.size := ⟨_, rfl⟩
   rw [← hg5] at b5 l5 ⊢
   clear hg5
   have kb := b1.kd
   obtain ⟨b1_0, b1_1, b1_2, b1_3⟩ := b1.c4
   have b1_z := b1.free
   have b1_l := b1.lt
   obtain ⟨b5_0, b5_1, b5_2, b5_3⟩ := b5.c4
   have b5_z := b5.free
   have b5_l := b5.lt
   go_upto_region 6 with (fail)
   try clear b1_0 b1_1 b1_2 b1_3 b1_z b1_l b5_0 b5_1 b5_2 b5_3 b5_z b5_l
   generalize hwn : World.setCell (World.setCell (World.setCell (World.setCell w3 _ _) _ _) _ _) _ _ = w4
   have b2 : Box w4 g2 30 #[.slice none 0 0, .slice none 0 0, .slice none 0 0, .int .i64 0] := by rw [← hwn]; (repeat (with_reducible (first | assumption | refine Box.alloc ?_ _ | refine Box.setOther ?_ (by simp <;> omega) _)))
   have b3 : Box w4 g3 50 (repC []) := by rw [← hwn]; (repeat (with_reducible (first | assumption | refine Box.alloc ?_ _ | refine Box.setOther ?_ (by simp <;> omega) _)))
   have b4 : Box w4 g4 50 (repC hs) := by rw [← hwn]; (repeat (with_reducible (first | assumption | refine Box.alloc ?_ _ | refine Box.setOther ?_ (by simp <;> omega) _)))
   have s2 := s2.sub (T' := tS) (base' := base) (List.Subset.refl _) (Nat.zero_le _)
   have s2 := s2.kept (w' := w4) (by rw [← hwn]; (repeat (with_reducible (first | assumption | exact Kept.refl _ _ _ | (apply Kept.setK; rotate_left; (repeat (first | assumption | apply Kd.set | apply Kd.alloc | apply Kd.drew)); decide; omega) | refine Kept.allocK ?_ _ | refine Kept.drewK ?_))))
   have hx : Ext w w4 := by rw [← hwn]; (repeat (with_reducible (first | assumption | exact Below.refl _ _ | refine Below.setCell ?_ (by simp <;> omega) _ | refine Below.alloc ?_ (by simp <;> omega) _ | refine Below.drew ?_ | refine below_drewN ?_ _)))
   have b1 : Box w4 g1 30 #[.slice A2 n2 c2, .slice E2 m2 e2, .slice F2 k2 f2, .int .i64 (scOne y).1.next] := by rw [← hwn]; exact (((b1.set 0 _).set 1 _).set 2 _).set 3 _
   clear hwn kb b5
   obtain ⟨q, hq, hq6⟩ := one_how y
   rw [← HS.out.1] at s2 b1
   have HS := Lib.hid (show (scTo s (a + 1)).2 = hs ++ [(q : Int)] by rw [HS.out.2, hq])
   rw [hq]
   have HQ := Lib.hid (repC_set hs hq6)
   obtain ⟨hr0, hr1⟩ := rc_len hs q
   have x0 := b4.cell q (repC_at hs hq6)
   have xf := b4.free q
   have xl := b4.lt
   have hwr : IntKind.wrap .i64 (rc hs q + 1) = rc hs q + 1 := by rw [IntKind.wrap_i64]; omega
   have q0 : (0 : Int) ≤ (q : Int) := by omega
   have q6 : (q : Int) < 6 := by omega
   generalize rc hs q = z at x0 HQ hr0 hr1 hwr
   rw [hlen] at hr1
   clear hlen hq
   have k4 := b4.kd
   go_wp2_with fail
   refine ⟨⟨a + 1, by omega, rfl, ⟨_, _, _, _, _, _, _, _, _, by (repeat (with_reducible (first | assumption | refine Box.alloc ?_ _ | refine Box.setOther ?_ (by simp <;> omega) _))), s2.kept (by (repeat (with_reducible (first | assumption | exact Kept.refl _ _ _ | (apply Kept.setK; rotate_left; (repeat (first | assumption | apply Kd.set | apply Kd.alloc | apply Kd.drew)); decide; omega) | refine Kept.allocK ?_ _ | refine Kept.drewK ?_))))⟩, by (repeat (with_reducible (first | assumption | refine Box.alloc ?_ _ | refine Box.setOther ?_ (by simp <;> omega) _))), by (repeat (with_reducible (first | assumption | refine Box.alloc ?_ _ | refine Box.setOther ?_ (by simp <;> omega) _))), ?_, by (repeat (with_reducible (first | assumption | exact Below.refl _ _ | refine Below.setCell ?_ (by simp <;> omega) _ | refine Below.alloc ?_ (by simp <;> omega) _ | refine Below.drew ?_ | refine below_drewN ?_ _)))⟩, ?_⟩
   ·rw [HS.out, ← HQ.out]
    exact b4.set _ _
   ·simp only [intOf]
    omega
  ·obtain rfl : a = 6 := by omega
   go_upto_region 8 with (fail)
   have he : Ext wr wr.drew := (Below.refl _ _).drew
   have hx := ext_trans hx he
   have b1 := b1.ext he
   have b2 := b2.ext he
   have b3 := b3.ext he
   have b4 := b4.ext he
   have s1 := s1.ext he
   clear he
   refine wp_region_uk w.heap.size [g1, g4] 4 [] [0, 1] rfl (by kernel_rfl) (by kernel_rfl) ?_
   generalize wr.drew = D at hx b1 b2 b3 b4 s1 ⊢
   apply uF 0 (by kernel_rfl) (by rfl) (by rfl) (by rfl)
   ·(intro w' hx; obtain ⟨x0, x1, x2, x3⟩ := (b1.xk hx (by simp)).c4; go_simp <;> with_reducible rfl)
   simp only [pA, pB, pC, pD]
   apply uF 1 (by kernel_rfl) (by rfl) (by rfl) (by rfl)
   ·(intro w' hx; obtain ⟨x0, x1, x2, x3, x4, x5⟩ := (b4.xk hx (by simp)).c6; go_simp <;> with_reducible rfl)
   simp only [pA, pB, pC, pD]
   refine uS 2 (by kernel_rfl) (by kernel_rfl) (by rfl) (by rfl) (fun K hK => ?_)
   have k2 := b2.kd
   obtain ⟨b2_0, b2_1, b2_2, b2_3⟩ := b2.c4
   have b2_z := b2.free
   have b2_l := b2.lt
   go_wp2
   try clear b2_0 b2_1 b2_2 b2_3 b2_z b2_l
   refine hK.out _ _ (by repeat (with_reducible (first | exact XK.refl _ _ _ | refine xk_set ?_ (by omega) (by simp; omega) _ _))) ?_
   clear hK K
   try simp only [pA, pB, pC, pD]
   generalize hwn : World.setCell (World.setCell (World.setCell (World.setCell D _ _) _ _) _ _) _ _ = w10
   have b3 : Box w10 g3 50 (repC []) := by rw [← hwn]; (repeat (with_reducible (first | assumption | refine Box.alloc ?_ _ | refine Box.setOther ?_ (by simp <;> omega) _)))
   have s1 := s1.kept (w' := w10) (by rw [← hwn]; (repeat (with_reducible (first | assumption | exact Kept.refl _ _ _ | (apply Kept.setK; rotate_left; (repeat (first | assumption | apply Kd.set | apply Kd.alloc | apply Kd.drew)); decide; omega) | refine Kept.allocK ?_ _ | refine Kept.drewK ?_))))
   have hx : Ext w w10 := by rw [← hwn]; (repeat (with_reducible (first | assumption | exact Below.refl _ _ | refine Below.setCell ?_ (by simp <;> omega) _ | refine Below.alloc ?_ (by simp <;> omega) _ | refine Below.drew ?_ | refine below_drewN ?_ _)))
   have b2 : Box w10 g2 30 #[.slice A1 n1 c1, .slice E1 m1 e1, .slice F1 k1 f1, .int .i64 (scTo s 6).1.next] := by rw [← hwn]; exact (((b2.set 0 _).set 1 _).set 2 _).set 3 _
   clear hwn k2 b1 b4
   refine uL 3 (by kernel_rfl) (by kernel_rfl) (by kernel_rfl) (by rfl) (by rfl) (fun K hK => ?_)
   have hK' := Lib.hid hK
   clear hK
   have k3 := b3.kd
   obtain ⟨b3_0, b3_1, b3_2, b3_3, b3_4, b3_5⟩ := b3.c6
   have b3_z := b3.free
   have b3_l := b3.lt
   obtain ⟨b2_0, b2_1, b2_2, b2_3⟩ := b2.c4
   have b2_z := b2.free
   have b2_l := b2.lt
   go_wp2
   refine hK'.out _ _ ?_
   clear hK' K
   refine uEnd (by kernel_rfl) ?_
   go_wp2_with fail
   ((try simp only [Exit.inBlock, Exit.then]); refine bodyPost_ret (v := ?_) ?resultOf rfl ?_; case resultOf => (rw [results_cells rfl]; go_simp; rfl))
   try clear b3_0 b3_1 b3_2 b3_3 b3_4 b3_5 b3_z b3_l b2_0 b2_1 b2_2 b2_3 b2_z b2_l
   exact ⟨_, rfl, s1.kept (by (repeat (with_reducible (first | assumption | exact Kept.refl _ _ _ | (apply Kept.setK; rotate_left; (repeat (first | assumption | apply Kd.set | apply Kd.alloc | apply Kd.drew)); decide; omega) | refine Kept.allocK ?_ _ | refine Kept.drewK ?_)))), by (repeat (with_reducible (first | assumption | exact Below.refl _ _ | refine Below.setCell ?_ (by simp <;> omega) _ | refine Below.alloc ?_ (by simp <;> omega) _ | refine Below.drew ?_ | refine below_drewN ?_ _)))⟩
end Go.Proofs.YtdmnmfnmaccmoaaGreatDoor
