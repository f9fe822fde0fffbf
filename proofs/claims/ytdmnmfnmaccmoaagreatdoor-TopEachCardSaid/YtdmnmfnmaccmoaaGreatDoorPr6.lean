/- Walks: pair.Mend. -/
import Derived.Test.YtdmnmfnmaccmoaaGreatDoorPr3
import Derived.Test.YtdmnmfnmaccmoaaGreatDoorPr2
import Derived.Test.YtdmnmfnmaccmoaaGreatDoorPr4
import Derived.Test.YtdmnmfnmaccmoaaGreatDoorPr5
namespace Go.Proofs.YtdmnmfnmaccmoaaGreatDoor
open Go Go.RowKit
set_option maxRecDepth 100000 in
set_option maxHeartbeats 4000000 in
theorem mend_v {T : List TypeId} {base : Nat} {v : Value} {d : Dsk} {p : Int} {w : World} (h : DskV T w base v d) (hk : DskOk d) (hk4 : d.late.length ≤ 4000) :
  Calls Tryz.prog 47 #[v, .int .i64 p] w fun e w' => ∃ v' q, e = .returned (.tuple #[v', .int .i64 q]) ∧ Hid (q = (pMend d p).2) ∧ DskV tD w' 0 v' (pMend d p).1 ∧ Ext w w' := by
 have h := h.all (T' := tD)
 obtain ⟨A, n, c, E, m, e, rfl, HN, HM, hb, hl, hnc, hme⟩ := h.form
 clear hb hl HN HM
 go_enter Tryz.func47, Tryz.ntmps47
 go_upto_region 1 with (fail)
 generalize hwn : World.alloc (World.alloc w _) _ = W
 have hx : Ext w W := by rw [← hwn]; (repeat (with_reducible (first | assumption | exact Below.refl _ _ | refine Below.setCell ?_ (by simp <;> omega) _ | refine Below.alloc ?_ (by simp <;> omega) _ | refine Below.drew ?_ | refine below_drewN ?_ _)))
 have b2 : Box W w.heap.size 27 #[.slice A n c, .slice E m e] := by rw [← hwn]; exact (Box.new _ _ _ rfl).alloc _
 have b4 : Box W (w.heap.size + 1) 27 #[.slice none 0 0, .slice none 0 0] := by rw [← hwn]; exact Box.new _ _ _ (by simp)
 clear hwn
 obtain ⟨g2, hg2⟩ : ∃ g, g = w.heap.size := ⟨_, rfl⟩
 obtain ⟨g4, hg4⟩ : ∃ g, g = w.heap.size + 1 := ⟨_, rfl⟩
 have l2 : w.heap.size ≤ g2 := by omega
 have l4 : g2 < g4 := by omega
 rw [← hg4] at b4 ⊢
 rw [show Box W w.heap.size 27 #[.slice A n c, .slice E m e] ↔ Box W g2 27 #[.slice A n c, .slice E m e] by rw [hg2]] at b2
 rw [← hg2]
 clear hg2 hg4
 have hz := hx.size
 have h := h.ext hx
 obtain ⟨b2_0, b2_1⟩ := b2.c2
 have b2_z := b2.free
 have b2_l := b2.lt
 go_wp2_with fail
 refine (look_v (p := p) h hk).mono ?_
 rintro e1 w1 ⟨rv, rfl, hr, he⟩
 try clear b2_0 b2_1 b2_z b2_l
 have hx := ext_trans hx he
 have h := h.ext he
 have b2 := b2.ext he
 have b4 := b4.ext he
 clear he
 have hkd := pLook_kind d p
 obtain ⟨how, hhow⟩ : ∃ x, (pLook d p).1 = x := ⟨_, rfl⟩
 obtain ⟨r, hr'⟩ : ∃ x, (pLook d p).2 = x := ⟨_, rfl⟩
 rw [hhow] at hkd ⊢
 rw [hr'] at hr
 have HH := Lib.hid hhow
 have HR := Lib.hid hr'
 have k0 : 0 ≤ how := hkd.2.2.1
 have k5 : how ≤ 5 := hkd.2.2.2
 clear hhow hr' hkd
 obtain ⟨A2, n2, c2, rfl, _, hyt⟩ := hr.at_
 go_upto_region 2 with (fail)
 generalize hwn : World.alloc w1 _ = w2
 have he : Ext w1 w2 := by rw [← hwn]; (repeat (with_reducible (first | assumption | exact Below.refl _ _ | refine Below.setCell ?_ (by simp <;> omega) _ | refine Below.alloc ?_ (by simp <;> omega) _ | refine Below.drew ?_ | refine below_drewN ?_ _)))
 have b7 : Box w2 w1.heap.size 54 #[.int .i64 r.kind, .int .i64 r.key, .int .i64 r.ver, .slice A2 n2 c2] := by rw [← hwn]; exact Box.new _ _ _ (by simp)
 have hx := ext_trans hx he
 have h := h.ext he
 have b2 := b2.ext he
 have b4 := b4.ext he
 have hr := hr.ext he
 have hz7 := he.size
 clear he hwn hyt
 have l47 := b4.lt
 by_cases h01 : how = 0 ∨ how = 1
 ·have HP : Hid (pMend d p = (d, how)) := Lib.hid (by unfold pMend; rw [HH.out, if_pos h01])
  rcases h01 with rfl | rfl
  ·obtain ⟨b2_0, b2_1⟩ := b2.c2
   have b2_z := b2.free
   have b2_l := b2.lt
   go_wp2_with fail
   refine (dskOwn_v h hk).mono ?_
   rintro e3 w3 ⟨v3, rfl, o3, he⟩
   try clear b2_0 b2_1 b2_z b2_l
   have hx := ext_trans hx he
   have b2 := b2.ext he
   have b4 := b4.ext he
   clear he
   have o3 := o3.v
   obtain ⟨A3, n3, c3, E3, m3, f3, rfl, HN3, HM3, _, _, _, _⟩ := o3.form
   have k4 := b4.kd
   obtain ⟨b4_0, b4_1⟩ := b4.c2
   have b4_z := b4.free
   have b4_l := b4.lt
   go_wp2_with fail
   ((try simp only [Exit.inBlock, Exit.then]); refine bodyPost_ret (v := ?_) ?resultOf rfl ?_; case resultOf => (rw [results_cell_tmp rfl]; go_simp; rfl))
   refine ⟨_, _, rfl, ?_, ?_, ?_⟩
   ·rw [HP.out]; rfl
   ·rw [HP.out]
    exact o3.kept (by (repeat (with_reducible (first | assumption | exact Kept.refl _ _ _ | (apply Kept.setK; rotate_left; (repeat (first | assumption | apply Kd.set | apply Kd.alloc | apply Kd.drew)); decide; omega) | refine Kept.allocK ?_ _ | refine Kept.drewK ?_))))
   ·(repeat (with_reducible (first | assumption | exact Below.refl _ _ | refine Below.setCell ?_ (by simp <;> omega) _ | refine Below.alloc ?_ (by simp <;> omega) _ | refine Below.drew ?_ | refine below_drewN ?_ _)))
  ·obtain ⟨b2_0, b2_1⟩ := b2.c2
   have b2_z := b2.free
   have b2_l := b2.lt
   go_wp2_with fail
   refine (dskOwn_v h hk).mono ?_
   rintro e3 w3 ⟨v3, rfl, o3, he⟩
   try clear b4_0 b4_1 b4_z b4_l b2_0 b2_1 b2_z b2_l
   have hx := ext_trans hx he
   have b2 := b2.ext he
   have b4 := b4.ext he
   clear he
   have o3 := o3.v
   obtain ⟨A3, n3, c3, E3, m3, f3, rfl, HN3, HM3, _, _, _, _⟩ := o3.form
   have k4 := b4.kd
   obtain ⟨b4_0, b4_1⟩ := b4.c2
   have b4_z := b4.free
   have b4_l := b4.lt
   go_wp2_with fail
   ((try simp only [Exit.inBlock, Exit.then]); refine bodyPost_ret (v := ?_) ?resultOf rfl ?_; case resultOf => (rw [results_cell_tmp rfl]; go_simp; rfl))
   refine ⟨_, _, rfl, ?_, ?_, ?_⟩
   ·rw [HP.out]; rfl
   ·rw [HP.out]
    exact o3.kept (by (repeat (with_reducible (first | assumption | exact Kept.refl _ _ _ | (apply Kept.setK; rotate_left; (repeat (first | assumption | apply Kd.set | apply Kd.alloc | apply Kd.drew)); decide; omega) | refine Kept.allocK ?_ _ | refine Kept.drewK ?_))))
   ·(repeat (with_reducible (first | assumption | exact Below.refl _ _ | refine Below.setCell ?_ (by simp <;> omega) _ | refine Below.alloc ?_ (by simp <;> omega) _ | refine Below.drew ?_ | refine below_drewN ?_ _)))
 ·have HP : Hid (pMend d p = ((pPut d p r).1, how)) := Lib.hid (by unfold pMend; rw [HH.out, HR.out, if_neg h01])
  have q0 : (how == 0) = false := by simp; omega
  have q1 : (how == 1) = false := by simp; omega
  clear h01
  obtain ⟨b2_0, b2_1⟩ := b2.c2
  have b2_z := b2.free
  have b2_l := b2.lt
  obtain ⟨b7_0, b7_1, b7_2, b7_3⟩ := b7.c4
  have b7_z := b7.free
  have b7_l := b7.lt
  go_wp2_with fail
  refine (pPut_v (p := p) h hk hk4 hr).mono ?_
  rintro e3 w3 ⟨v3, q3, rfl, hq3, o3, he⟩
  try clear b4_0 b4_1 b4_z b4_l b2_0 b2_1 b2_z b2_l b7_0 b7_1 b7_2 b7_3 b7_z b7_l
  have hx := ext_trans hx he
  have b2 := b2.ext he
  have b7 := b7.ext he
  have b4 := b4.ext he
  clear he
  clear hq3
  obtain ⟨A3, n3, c3, E3, m3, f3, rfl, HN3, HM3, _, _, _, _⟩ := o3.form
  have k4 := b4.kd
  obtain ⟨b4_0, b4_1⟩ := b4.c2
  have b4_z := b4.free
  have b4_l := b4.lt
  go_wp2_with fail
  ((try simp only [Exit.inBlock, Exit.then]); refine bodyPost_ret (v := ?_) ?resultOf rfl ?_; case resultOf => (rw [results_cell_tmp rfl]; go_simp; rfl))
  refine ⟨_, _, rfl, ?_, ?_, ?_⟩
  ·rw [HP.out]; rfl
  ·rw [HP.out]
   exact o3.kept (by (repeat (with_reducible (first | assumption | exact Kept.refl _ _ _ | (apply Kept.setK; rotate_left; (repeat (first | assumption | apply Kd.set | apply Kd.alloc | apply Kd.drew)); decide; omega) | refine Kept.allocK ?_ _ | refine Kept.drewK ?_))))
  ·(repeat (with_reducible (first | assumption | exact Below.refl _ _ | refine Below.setCell ?_ (by simp <;> omega) _ | refine Below.alloc ?_ (by simp <;> omega) _ | refine Below.drew ?_ | refine below_drewN ?_ _)))
end Go.Proofs.YtdmnmfnmaccmoaaGreatDoor
