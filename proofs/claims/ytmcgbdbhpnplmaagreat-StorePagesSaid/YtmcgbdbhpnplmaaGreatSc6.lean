/- Walks: scref6.Do. -/
import Derived.Test.YtmcgbdbhpnplmaaGreatSc5
namespace Go.Proofs.YtmcgbdbhpnplmaaGreat
open Go Go.RowKit
theorem begin_fine {s : Sto} (g : sGood s) (d : Ded) : Fine (sBegin s d).1.disk 4 := by
 by_cases h : (sBegin s d).2.2 = 0
 ·obtain ⟨_, _, p, r, _, _, e1, _⟩ := begin_ok g h
  rw [e1]
  exact ((good_fine g.disk).put (by omega) p r).le (by omega)
 ·rw [(begin_err h).1]
  exact (good_fine g.disk).le (by omega)
set_option maxRecDepth 100000 in
set_option maxHeartbeats 4000000 in
theorem refStoDo_v {base : Nat} {v dv : Value} {s : Sto} {d : Ded} {w : World} (hbase : base ≤ w.heap.size) (h : StoV tS w base v s) (g : sGood s) (hd : DedV w base dv d) :
  Calls Tryz.prog 23 #[v, dv] w fun e w' => ∃ v', e = .returned (.tuple #[v', .int .i64 (sDo s d).2.1, .int .i64 (sDo s d).2.2]) ∧ StoV tS w' base v' (sDo s d).1 ∧ Ext w w' := by
 obtain ⟨A, n, c, E, m, e, F, k, f, rfl, _, _, _, _, _, _, _, _⟩ := h.form
 obtain ⟨A0, n0, c0, rfl, _, _⟩ := hd.at_
 have HG := Lib.hid g
 clear g
 go_enter Tryz.func23, Tryz.ntmps23
 go_upto_region 1 with (fail)
 generalize hwn : World.alloc (World.alloc (World.alloc w _) _) _ = w1
 have hx : Ext w w1 := by rw [← hwn]; (repeat (with_reducible (first | assumption | exact Below.refl _ _ | refine Below.setCell ?_ (by simp <;> omega) _ | refine Below.alloc ?_ (by simp <;> omega) _ | refine Below.drew ?_ | refine below_drewN ?_ _)))
 have b2 : Box w1 w.heap.size 33 #[.slice A n c, .slice E m e, .slice F k f, .int .i64 s.next] := by rw [← hwn]; exact ((Box.new _ _ _ rfl).alloc _).alloc _
 have b3 : Box w1 (w.heap.size + 1) 25 #[.int .i64 d.kind, .int .i64 d.key, .int .i64 d.n, .slice A0 n0 c0] := by rw [← hwn]; exact (Box.new _ _ _ (by simp)).alloc _
 have b4 : Box w1 (w.heap.size + 2) 33 #[.slice none 0 0, .slice none 0 0, .slice none 0 0, .int .i64 0] := by rw [← hwn]; exact Box.new _ _ _ (by simp)
 clear hwn
 obtain ⟨g4, hg4⟩ : ∃ g, g = w.heap.size + 2 := ⟨_, rfl⟩
 obtain ⟨g3, hg3⟩ : ∃ g, g = w.heap.size + 1 := ⟨_, rfl⟩
 obtain ⟨g2, hg2⟩ : ∃ g, g = w.heap.size := ⟨_, rfl⟩
 rw [← hg4] at b4 ⊢
 rw [← hg3] at b3 ⊢
 rw [← hg2]
 rw [show Box w1 w.heap.size 33 #[.slice A n c, .slice E m e, .slice F k f, .int .i64 s.next] ↔ Box w1 g2 33 #[.slice A n c, .slice E m e, .slice F k f, .int .i64 s.next] by rw [hg2]] at b2
 have l2 : w.heap.size ≤ g2 := by omega
 have l3 : g2 < g3 := by omega
 have l4 : g3 < g4 := by omega
 clear hg2 hg3 hg4
 have h := h.ext hx
 have hd := hd.ext hx
 obtain ⟨b2_0, b2_1, b2_2, b2_3⟩ := b2.c4
 have b2_z := b2.free
 have b2_l := b2.lt
 obtain ⟨b3_0, b3_1, b3_2, b3_3⟩ := b3.c4
 have b3_z := b3.free
 have b3_l := b3.lt
 go_wp2_with fail
 refine (refBegin_v (Nat.le_trans hbase hx.size) h HG.out hd).mono ?_
 rintro e1 w2 ⟨v2, rfl, s2, he⟩
 try clear b2_0 b2_1 b2_2 b2_3 b2_z b2_l b3_0 b3_1 b3_2 b3_3 b3_z b3_l
 have hx := ext_trans hx he
 have b2 := b2.ext he
 have b3 := b3.ext he
 have b4 := b4.ext he
 clear he
 clear h hd b3
 have HFI := Lib.hid (begin_fine HG.out d)
 have HDo := Lib.hid (show sDo s d = if (sBegin s d).2.2 = 0 then (⟨dFlush (sBegin s d).1.disk, (sBegin s d).1.index, (sBegin s d).1.next⟩, (sBegin s d).2.1, 0) else ((sBegin s d).1, (sBegin s d).2.1, (sBegin s d).2.2) from rfl)
 generalize (sBegin s d).1 = y at s2 HFI HDo
 generalize (sBegin s d).2.1 = nn at HDo ⊢
 generalize (sBegin s d).2.2 = q at HDo ⊢
 obtain ⟨A2, n2, c2, E2, m2, e2, F2, k2, f2, rfl, d2, i2, _, _, _, _, _, _⟩ := s2.form
 clear s2
 have kb := b2.kd
 obtain ⟨b2_0, b2_1, b2_2, b2_3⟩ := b2.c4
 have b2_z := b2.free
 have b2_l := b2.lt
 go_upto_region 2 with (fail)
 try clear b2_0 b2_1 b2_2 b2_3 b2_z b2_l
 generalize hwn : World.setCell (World.setCell (World.setCell (World.setCell w2 _ _) _ _) _ _) _ _ = w3
 have b4 : Box w3 g4 33 #[.slice none 0 0, .slice none 0 0, .slice none 0 0, .int .i64 0] := by rw [← hwn]; (repeat (with_reducible (first | assumption | refine Box.alloc ?_ _ | refine Box.setOther ?_ (by simp <;> omega) _)))
 have d2 : DskV tS w3 base (.agg #[.slice A2 n2 c2, .slice E2 m2 e2]) y.disk := d2.kept (by rw [← hwn]; (repeat (with_reducible (first | assumption | exact Kept.refl _ _ _ | (apply Kept.setK; rotate_left; (repeat (first | assumption | apply Kd.set | apply Kd.alloc | apply Kd.drew)); decide; omega) | refine Kept.allocK ?_ _ | refine Kept.drewK ?_))))
 have i2 : Row eEnt tS w3 base (.slice F2 k2 f2) y.index := i2.kept (by rw [← hwn]; (repeat (with_reducible (first | assumption | exact Kept.refl _ _ _ | (apply Kept.setK; rotate_left; (repeat (first | assumption | apply Kd.set | apply Kd.alloc | apply Kd.drew)); decide; omega) | refine Kept.allocK ?_ _ | refine Kept.drewK ?_))))
 have hx : Ext w w3 := by rw [← hwn]; (repeat (with_reducible (first | assumption | exact Below.refl _ _ | refine Below.setCell ?_ (by simp <;> omega) _ | refine Below.alloc ?_ (by simp <;> omega) _ | refine Below.drew ?_ | refine below_drewN ?_ _)))
 have b2 : Box w3 g2 33 #[.slice A2 n2 c2, .slice E2 m2 e2, .slice F2 k2 f2, .int .i64 y.next] := by rw [← hwn]; exact (((b2.set 0 _).set 1 _).set 2 _).set 3 _
 clear hwn kb
 by_cases hq : q = 0
 ·obtain rfl := hq
  have HD := Lib.hid (HDo.out.trans (if_pos rfl))
  obtain ⟨b2_0, b2_1, b2_2, b2_3⟩ := b2.c4
  have b2_z := b2.free
  have b2_l := b2.lt
  go_wp2_with fail
  refine (refFlush_v (T := tS) tDS (Nat.le_trans hbase hx.size) d2 HFI.out.ok HFI.out.inn).mono ?_
  rintro e4 w4 ⟨v4, rfl, d4, he⟩
  try clear b2_0 b2_1 b2_2 b2_3 b2_z b2_l
  have hx := ext_trans hx he
  have i2 := i2.ext he
  have b2 := b2.ext he
  have b4 := b4.ext he
  clear he
  clear d2
  obtain ⟨A4, n4, c4, E4, m4, e4, rfl, _, _, _, _, _, _⟩ := d4.form
  have kb := b2.kd
  obtain ⟨b2_0, b2_1, b2_2, b2_3⟩ := b2.c4
  have b2_z := b2.free
  have b2_l := b2.lt
  go_upto_region 4 with (fail)
  try clear b2_0 b2_1 b2_2 b2_3 b2_z b2_l
  generalize hwn : World.setCell (World.setCell w4 _ _) _ _ = w5
  have b4 : Box w5 g4 33 #[.slice none 0 0, .slice none 0 0, .slice none 0 0, .int .i64 0] := by rw [← hwn]; (repeat (with_reducible (first | assumption | refine Box.alloc ?_ _ | refine Box.setOther ?_ (by simp <;> omega) _)))
  have d4 : DskV tS w5 base (.agg #[.slice A4 n4 c4, .slice E4 m4 e4]) (dFlush y.disk) := d4.kept (by rw [← hwn]; (repeat (with_reducible (first | assumption | exact Kept.refl _ _ _ | (apply Kept.setK; rotate_left; (repeat (first | assumption | apply Kd.set | apply Kd.alloc | apply Kd.drew)); decide; omega) | refine Kept.allocK ?_ _ | refine Kept.drewK ?_))))
  have i2 : Row eEnt tS w5 base (.slice F2 k2 f2) y.index := i2.kept (by rw [← hwn]; (repeat (with_reducible (first | assumption | exact Kept.refl _ _ _ | (apply Kept.setK; rotate_left; (repeat (first | assumption | apply Kd.set | apply Kd.alloc | apply Kd.drew)); decide; omega) | refine Kept.allocK ?_ _ | refine Kept.drewK ?_))))
  have hx : Ext w w5 := by rw [← hwn]; (repeat (with_reducible (first | assumption | exact Below.refl _ _ | refine Below.setCell ?_ (by simp <;> omega) _ | refine Below.alloc ?_ (by simp <;> omega) _ | refine Below.drew ?_ | refine below_drewN ?_ _)))
  have b2 : Box w5 g2 33 #[.slice A4 n4 c4, .slice E4 m4 e4, .slice F2 k2 f2, .int .i64 y.next] := by rw [← hwn]; exact (b2.set 0 _).set 1 _
  clear hwn kb
  have k4 := b4.kd
  obtain ⟨b2_0, b2_1, b2_2, b2_3⟩ := b2.c4
  have b2_z := b2.free
  have b2_l := b2.lt
  obtain ⟨b4_0, b4_1, b4_2, b4_3⟩ := b4.c4
  have b4_z := b4.free
  have b4_l := b4.lt
  go_wp2_with fail
  ((try simp only [Exit.inBlock, Exit.then]); refine bodyPost_ret (v := ?_) ?resultOf rfl ?_; case resultOf => (rw [results_ctt rfl]; go_simp; rfl))
  try clear b2_0 b2_1 b2_2 b2_3 b2_z b2_l b4_0 b4_1 b4_2 b4_3 b4_z b4_l
  rw [HD.out]
  exact ⟨_, rfl, StoV.mk (d4.kept (by (repeat (with_reducible (first | assumption | exact Kept.refl _ _ _ | (apply Kept.setK; rotate_left; (repeat (first | assumption | apply Kd.set | apply Kd.alloc | apply Kd.drew)); decide; omega) | refine Kept.allocK ?_ _ | refine Kept.drewK ?_))))) (i2.kept (by (repeat (with_reducible (first | assumption | exact Kept.refl _ _ _ | (apply Kept.setK; rotate_left; (repeat (first | assumption | apply Kd.set | apply Kd.alloc | apply Kd.drew)); decide; omega) | refine Kept.allocK ?_ _ | refine Kept.drewK ?_))))) rfl, by (repeat (with_reducible (first | assumption | exact Below.refl _ _ | refine Below.setCell ?_ (by simp <;> omega) _ | refine Below.alloc ?_ (by simp <;> omega) _ | refine Below.drew ?_ | refine below_drewN ?_ _)))⟩
 ·have HD := Lib.hid (HDo.out.trans (if_neg hq))
  have q1 : (q == 0) = false := by simpa using hq
  have k4 := b4.kd
  clear hq
  obtain ⟨b2_0, b2_1, b2_2, b2_3⟩ := b2.c4
  have b2_z := b2.free
  have b2_l := b2.lt
  obtain ⟨b4_0, b4_1, b4_2, b4_3⟩ := b4.c4
  have b4_z := b4.free
  have b4_l := b4.lt
  go_wp2_with fail
  ((try simp only [Exit.inBlock, Exit.then]); refine bodyPost_ret (v := ?_) ?resultOf rfl ?_; case resultOf => (rw [results_ctt rfl]; go_simp; rfl))
  try clear b2_0 b2_1 b2_2 b2_3 b2_z b2_l b4_0 b4_1 b4_2 b4_3 b4_z b4_l
  rw [HD.out]
  exact ⟨_, rfl, StoV.mk (d2.kept (by (repeat (with_reducible (first | assumption | exact Kept.refl _ _ _ | (apply Kept.setK; rotate_left; (repeat (first | assumption | apply Kd.set | apply Kd.alloc | apply Kd.drew)); decide; omega) | refine Kept.allocK ?_ _ | refine Kept.drewK ?_))))) (i2.kept (by (repeat (with_reducible (first | assumption | exact Kept.refl _ _ _ | (apply Kept.setK; rotate_left; (repeat (first | assumption | apply Kd.set | apply Kd.alloc | apply Kd.drew)); decide; omega) | refine Kept.allocK ?_ _ | refine Kept.drewK ?_))))) rfl, by (repeat (with_reducible (first | assumption | exact Below.refl _ _ | refine Below.setCell ?_ (by simp <;> omega) _ | refine Below.alloc ?_ (by simp <;> omega) _ | refine Below.drew ?_ | refine below_drewN ?_ _)))⟩
end Go.Proofs.YtmcgbdbhpnplmaaGreat
