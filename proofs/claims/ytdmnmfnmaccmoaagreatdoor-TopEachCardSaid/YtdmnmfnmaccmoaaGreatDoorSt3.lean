/- Walks: store.Do. -/
import Derived.Test.YtdmnmfnmaccmoaaGreatDoorSt2
import Derived.Test.YtdmnmfnmaccmoaaGreatDoorSc6
namespace Go.Proofs.YtdmnmfnmaccmoaaGreatDoor
open Go Go.RowKit
set_option maxRecDepth 100000 in
set_option maxHeartbeats 4000000 in
theorem stoDo_v {T : List TypeId} {base base' : Nat} {v dv : Value} {s : Sto} {d : Ded} {w : World} (h : StoV T w base v s) (g : sGood s) (hd : DedV w base' dv d) :
  Calls Tryz.prog 17 #[v, dv] w fun e w' => ∃ v', e = .returned (.tuple #[v', .int .i64 (sDo s d).2.1, .int .i64 (sDo s d).2.2]) ∧ StoV tS w' 0 v' (sDo s d).1 ∧ Ext w w' := by
 obtain ⟨A, n, c, E, m, e, F, k, f, rfl, _, _, _, _, _, _, _, _⟩ := h.form
 obtain ⟨A0, n0, c0, rfl, _, _⟩ := hd.at_
 have HG := Lib.hid g
 clear g
 go_enter Tryz.func17, Tryz.ntmps17
 go_upto_region 1 with (fail)
 generalize hwn : World.alloc (World.alloc (World.alloc w _) _) _ = w1
 have hx : Ext w w1 := by rw [← hwn]; (repeat (with_reducible (first | assumption | exact Below.refl _ _ | refine Below.setCell ?_ (by simp <;> omega) _ | refine Below.alloc ?_ (by simp <;> omega) _ | refine Below.drew ?_ | refine below_drewN ?_ _)))
 have b2 : Box w1 w.heap.size 30 #[.slice A n c, .slice E m e, .slice F k f, .int .i64 s.next] := by rw [← hwn]; exact ((Box.new _ _ _ rfl).alloc _).alloc _
 have b3 : Box w1 (w.heap.size + 1) 34 #[.int .i64 d.kind, .int .i64 d.key, .int .i64 d.n, .slice A0 n0 c0] := by rw [← hwn]; exact (Box.new _ _ _ (by simp)).alloc _
 have b4 : Box w1 (w.heap.size + 2) 30 #[.slice none 0 0, .slice none 0 0, .slice none 0 0, .int .i64 0] := by rw [← hwn]; exact Box.new _ _ _ (by simp)
 clear hwn
 obtain ⟨g4, hg4⟩ : ∃ g, g = w.heap.size + 2 := ⟨_, rfl⟩
 have l4 : w.heap.size < g4 := by omega
 rw [← hg4] at b4 ⊢
 clear hg4
 have h := h.ext hx
 have hd := hd.ext hx
 obtain ⟨b2_0, b2_1, b2_2, b2_3⟩ := b2.c4
 have b2_z := b2.free
 have b2_l := b2.lt
 obtain ⟨b3_0, b3_1, b3_2, b3_3⟩ := b3.c4
 have b3_z := b3.free
 have b3_l := b3.lt
 go_wp2_with fail
 refine (stoBegin_v h HG.out hd).mono ?_
 rintro e1 w2 ⟨v2, rfl, s2, he⟩
 try clear b2_0 b2_1 b2_2 b2_3 b2_z b2_l b3_0 b3_1 b3_2 b3_3 b3_z b3_l
 have hx := ext_trans hx he
 have b2 := b2.ext he
 have b3 := b3.ext he
 have b4 := b4.ext he
 clear he
 clear h hd b2 b3
 have HFI := Lib.hid (begin_fine HG.out d)
 have HDo := Lib.hid (show sDo s d = if (sBegin s d).2.2 = 0 then (⟨dFlush (sBegin s d).1.disk, (sBegin s d).1.index, (sBegin s d).1.next⟩, (sBegin s d).2.1, 0) else ((sBegin s d).1, (sBegin s d).2.1, (sBegin s d).2.2) from rfl)
 generalize (sBegin s d).1 = y at s2 HFI HDo
 generalize (sBegin s d).2.1 = nn at HDo ⊢
 generalize (sBegin s d).2.2 = q at HDo ⊢
 obtain ⟨A2, n2, c2, E2, m2, e2, F2, k2, f2, rfl, d2, i2, _, _, _, _, _, _⟩ := s2.form
 clear s2
 go_upto_region 2 with (fail)
 generalize hwn : World.alloc w2 _ = w3
 have he : Ext w2 w3 := by rw [← hwn]; exact ext_alloc _ _
 have b7 : Box w3 w2.heap.size 30 #[.slice A2 n2 c2, .slice E2 m2 e2, .slice F2 k2 f2, .int .i64 y.next] := by rw [← hwn]; exact Box.new _ _ _ (by simp)
 clear hwn
 have l7 := b4.lt
 have hx := ext_trans hx he
 have b4 := b4.ext he
 have d2 := d2.ext he
 have i2 := i2.ext he
 clear he
 obtain ⟨g7, hg7⟩ : ∃ g, g = w2.heap.size := ⟨_, rfl⟩
 rw [← hg7] at b7 l7 ⊢
 clear hg7
 by_cases hq : q = 0
 ·obtain rfl := hq
  have HD := Lib.hid (HDo.out.trans (if_pos rfl))
  obtain ⟨b7_0, b7_1, b7_2, b7_3⟩ := b7.c4
  have b7_z := b7.free
  have b7_l := b7.lt
  go_wp2_with fail
  refine (dskFlush_v d2 HFI.out.ok HFI.out.inn).mono ?_
  rintro e4 w4 ⟨v4, rfl, o4, he⟩
  try clear b7_0 b7_1 b7_2 b7_3 b7_z b7_l
  have hx := ext_trans hx he
  have i2 := i2.ext he
  have b7 := b7.ext he
  have b4 := b4.ext he
  clear he
  have d4 := o4.v.sub tDS (Nat.le_refl _)
  clear d2 o4
  obtain ⟨A4, n4, c4, E4, m4, e4, rfl, _, _, _, _, _, _⟩ := d4.form
  have kb := b7.kd
  obtain ⟨b7_0, b7_1, b7_2, b7_3⟩ := b7.c4
  have b7_z := b7.free
  have b7_l := b7.lt
  go_upto_region 4 with (fail)
  try clear b7_0 b7_1 b7_2 b7_3 b7_z b7_l
  generalize hwn : World.setCell (World.setCell w4 _ _) _ _ = w5
  have b4 : Box w5 g4 30 #[.slice none 0 0, .slice none 0 0, .slice none 0 0, .int .i64 0] := by rw [← hwn]; (repeat (with_reducible (first | assumption | refine Box.alloc ?_ _ | refine Box.setOther ?_ (by simp <;> omega) _)))
  have d4 : DskV tS w5 0 (.agg #[.slice A4 n4 c4, .slice E4 m4 e4]) (dFlush y.disk) := d4.kept (by rw [← hwn]; (repeat (with_reducible (first | assumption | exact Kept.refl _ _ _ | (apply Kept.setK; rotate_left; (repeat (first | assumption | apply Kd.set | apply Kd.alloc | apply Kd.drew)); decide; omega) | refine Kept.allocK ?_ _ | refine Kept.drewK ?_))))
  have i2 : Row eEnt tS w5 0 (.slice F2 k2 f2) y.index := i2.kept (by rw [← hwn]; (repeat (with_reducible (first | assumption | exact Kept.refl _ _ _ | (apply Kept.setK; rotate_left; (repeat (first | assumption | apply Kd.set | apply Kd.alloc | apply Kd.drew)); decide; omega) | refine Kept.allocK ?_ _ | refine Kept.drewK ?_))))
  have hx : Ext w w5 := by rw [← hwn]; (repeat (with_reducible (first | assumption | exact Below.refl _ _ | refine Below.setCell ?_ (by simp <;> omega) _ | refine Below.alloc ?_ (by simp <;> omega) _ | refine Below.drew ?_ | refine below_drewN ?_ _)))
  have b7 : Box w5 g7 30 #[.slice A4 n4 c4, .slice E4 m4 e4, .slice F2 k2 f2, .int .i64 y.next] := by rw [← hwn]; exact (b7.set 0 _).set 1 _
  clear hwn kb
  have k4 := b4.kd
  obtain ⟨b7_0, b7_1, b7_2, b7_3⟩ := b7.c4
  have b7_z := b7.free
  have b7_l := b7.lt
  obtain ⟨b4_0, b4_1, b4_2, b4_3⟩ := b4.c4
  have b4_z := b4.free
  have b4_l := b4.lt
  go_wp2_with fail
  ((try simp only [Exit.inBlock, Exit.then]); refine bodyPost_ret (v := ?_) ?resultOf rfl ?_; case resultOf => (rw [results_ctt rfl]; go_simp; rfl))
  try clear b7_0 b7_1 b7_2 b7_3 b7_z b7_l b4_0 b4_1 b4_2 b4_3 b4_z b4_l
  rw [HD.out]
  exact ⟨_, rfl, StoV.mk (d4.kept (by (repeat (with_reducible (first | assumption | exact Kept.refl _ _ _ | (apply Kept.setK; rotate_left; (repeat (first | assumption | apply Kd.set | apply Kd.alloc | apply Kd.drew)); decide; omega) | refine Kept.allocK ?_ _ | refine Kept.drewK ?_))))) (i2.kept (by (repeat (with_reducible (first | assumption | exact Kept.refl _ _ _ | (apply Kept.setK; rotate_left; (repeat (first | assumption | apply Kd.set | apply Kd.alloc | apply Kd.drew)); decide; omega) | refine Kept.allocK ?_ _ | refine Kept.drewK ?_))))) rfl, by (repeat (with_reducible (first | assumption | exact Below.refl _ _ | refine Below.setCell ?_ (by simp <;> omega) _ | refine Below.alloc ?_ (by simp <;> omega) _ | refine Below.drew ?_ | refine below_drewN ?_ _)))⟩
 ·have HD := Lib.hid (HDo.out.trans (if_neg hq))
  have q1 : (q == 0) = false := by simpa using hq
  have k4 := b4.kd
  clear hq
  obtain ⟨b7_0, b7_1, b7_2, b7_3⟩ := b7.c4
  have b7_z := b7.free
  have b7_l := b7.lt
  obtain ⟨b4_0, b4_1, b4_2, b4_3⟩ := b4.c4
  have b4_z := b4.free
  have b4_l := b4.lt
  go_wp2_with fail
  ((try simp only [Exit.inBlock, Exit.then]); refine bodyPost_ret (v := ?_) ?resultOf rfl ?_; case resultOf => (rw [results_ctt rfl]; go_simp; rfl))
  try clear b7_0 b7_1 b7_2 b7_3 b7_z b7_l b4_0 b4_1 b4_2 b4_3 b4_z b4_l
  rw [HD.out]
  exact ⟨_, rfl, StoV.mk (d2.kept (by (repeat (with_reducible (first | assumption | exact Kept.refl _ _ _ | (apply Kept.setK; rotate_left; (repeat (first | assumption | apply Kd.set | apply Kd.alloc | apply Kd.drew)); decide; omega) | refine Kept.allocK ?_ _ | refine Kept.drewK ?_))))) (i2.kept (by (repeat (with_reducible (first | assumption | exact Kept.refl _ _ _ | (apply Kept.setK; rotate_left; (repeat (first | assumption | apply Kd.set | apply Kd.alloc | apply Kd.drew)); decide; omega) | refine Kept.allocK ?_ _ | refine Kept.drewK ?_))))) rfl, by (repeat (with_reducible (first | assumption | exact Below.refl _ _ | refine Below.setCell ?_ (by simp <;> omega) _ | refine Below.alloc ?_ (by simp <;> omega) _ | refine Below.drew ?_ | refine below_drewN ?_ _)))⟩
end Go.Proofs.YtdmnmfnmaccmoaaGreatDoor
