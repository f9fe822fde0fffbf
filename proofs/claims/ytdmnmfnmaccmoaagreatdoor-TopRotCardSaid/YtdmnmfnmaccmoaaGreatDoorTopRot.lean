/- The law TopRot: rot is slower than the scrubber. -/
import Derived.Test.YtdmnmfnmaccmoaaGreatDoorTpA
import Derived.Test.YtdmnmfnmaccmoaaGreatDoorSc9
namespace Go.Proofs.YtdmnmfnmaccmoaaGreatDoor
open Go Go.RowKit
theorem recs_of_index {s s' : Sto} (h : s.index = s'.index) : sRecs s = sRecs s' := by unfold sRecs; rw [h]
theorem rot_nums {l : List Int} {n : Nat} (hl : l.length = n) (h : ∀ j, j < n → 0 ≤ l.getD j 0 ∧ l.getD j 0 < 32) (p : Nat) : 0 ≤ l.getD p 0 ∧ l.getD p 0 < 32 := by
 by_cases e : p < n
 ·exact h p e
 ·rw [List.getD_eq_getElem?_getD, List.getElem?_eq_none (by omega)]
  exact ⟨by decide, by decide⟩
set_option maxRecDepth 100000 in
set_option maxHeartbeats 8000000 in
theorem topRot_law (W : World) (hV : VarT W) {v : Value} {l : List Int} {y rounds : Int} (h : Row eInt [] W W.heap.size v l) :
  Calls Tryz.prog 5 #[v, .int .i64 y, .int .i64 rounds] W fun e w' => e = .returned (.bool true) ∧ Below W.heap.size W w' := by
 obtain ⟨A, n, c, rfl, hc, hcm, HN⟩ := h.form
 unfold maxLen at hcm
 have hx : Ext W W := Below.refl _ _
 go_enter Tryz.func5, Tryz.ntmps5
 go_wp2_with fail
 refine (aliveT_w hV).mono ?_
 rintro e1 w1 ⟨rfl, he⟩
 have hx := ext_trans hx he
 have h := h.ext he
 clear he
 by_cases h6 : ¬ n = 6
 ·have q1 : ((n : Int) != 6) = true := by simp; omega
  clear h6
  go_wp2_with fail
  go_ret
  exact ⟨rfl, hx⟩
 obtain rfl := Decidable.not_not.1 h6
 by_cases y1 : y < 1
 ·have q1 : decide (y < 1) = true := by simpa using y1
  clear h6 y1
  go_wp2_with fail
  go_ret
  exact ⟨rfl, hx⟩
 have q1 : decide (y < 1) = false := by simpa using y1
 by_cases y2 : 255 < y
 ·have q2 : decide (255 < y) = true := by simpa using y2
  clear h6 y1 y2
  go_wp2_with fail
  go_ret
  exact ⟨rfl, hx⟩
 have q2 : decide (255 < y) = false := by simpa using y2
 by_cases a0 : rounds < 0
 ·have q3 : decide (rounds < 0) = true := by simpa using a0
  clear h6 y1 y2 a0
  go_wp2_with fail
  go_ret
  exact ⟨rfl, hx⟩
 have q3 : decide (rounds < 0) = false := by simpa using a0
 by_cases a9 : 9 < rounds
 ·have q4 : decide (9 < rounds) = true := by simpa using a9
  clear h6 y1 y2 a0 a9
  go_wp2_with fail
  go_ret
  exact ⟨rfl, hx⟩
 have q4 : decide (9 < rounds) = false := by simpa using a9
 obtain ⟨R, ea⟩ : ∃ R : Nat, rounds = (R : Int) := ⟨rounds.toNat, by omega⟩
 have hR : R ≤ 9 := by omega
 have HV := Lib.hid hV
 subst ea
 clear h6 y1 y2 a0 a9 hV
 go_upto_region 6 with (fail)
 clear q1 q2 q3 q4
 go_loopw [40] (fun i wr => ∃ a : Nat, a ≤ 6 ∧ i = .int .i64 a ∧ Hid (∀ j, j < a → 0 ≤ l.getD j 0 ∧ l.getD j 0 < 32) ∧ Row eInt [] wr W.heap.size (.slice A 6 c) l ∧ Ext W wr) (fun i _ => 6 - (intOf i).toNat)
 case atStart => exact ⟨0, by omega, rfl, Lib.hid (fun j hj => by omega), h, hx⟩
 case round =>
  clear hx h
  obtain ⟨a, ha, rfl, HL, h, hx⟩ := hrel
  by_cases hlt : a < 6
  ·have i0 : (0 : Int) ≤ (a : Int) := by omega
   have i1 : (a : Int) < 6 := by omega
   obtain ⟨g5, o5, rfl, hg5, cu⟩ := h.int_at (i := a) hlt
   obtain ⟨x, hxx⟩ : ∃ x, x = l.getD a 0 := ⟨_, rfl⟩
   rw [← hxx] at cu
   have HX := Lib.hid hxx
   clear hxx
   by_cases x0 : x < 0
   ·have q1 : decide (x < 0) = true := by simpa using x0
    clear x0
    go_wp2_with fail
    go_ret
    exact ⟨rfl, hx⟩
   have q1 : decide (x < 0) = false := by simpa using x0
   by_cases x1 : 32 ≤ x
   ·have q2 : decide (32 ≤ x) = true := by simpa using x1
    clear x0 x1
    go_wp2_with fail
    go_ret
    exact ⟨rfl, hx⟩
   have q2 : decide (32 ≤ x) = false := by simpa using x1
   have HL2 : Hid (∀ j, j < a + 1 → 0 ≤ l.getD j 0 ∧ l.getD j 0 < 32) := Lib.hid fun j hj => by
    by_cases e : j < a
    ·exact HL.out j e
    ·have : j = a := by omega
     rw [this, ← HX.out]
     omega
   clear x0 x1
   go_wp2_with fail
   refine ⟨⟨a + 1, by omega, rfl, HL2, h, hx⟩, ?_⟩
   simp only [intOf]
   omega
  ·obtain rfl : a = 6 := by omega
   have HNU := Lib.hid (rot_nums HN.out.symm HL.out)
   have hz := hx.size
   clear HL hlt ha
   go_upto_region 11 with (fail)
   obtain ⟨w1, hw1⟩ : ∃ x, x = wr := ⟨_, rfl⟩
   rw [← hw1] at hx h hz ⊢
   clear hw1
   go_wp2_with fail
   generalize hwn : World.alloc w1 _ = w2
   have he : Ext w1 w2 := by rw [← hwn]; exact ext_alloc _ _
   have bs : Box w2 w1.heap.size 9 (strs (wR.map tPrint)).toArray := by rw [← hwn, wR_is]; exact Box.new _ _ _ rfl
   clear hwn
   have hx := ext_trans hx he
   have h := h.ext he
   clear he
   refine (done_v (HV.out.ext hx) wR wR_runs (by decide) bs).mono ?_
   rintro e3 w3 ⟨v3, rfl, s3, he⟩
   have hx := ext_trans hx he
   have h := h.ext he
   clear he bs
   rw [show wR.length = 4 from rfl, wR_is_rot] at s3
   have HS0 := Lib.hid (rot_still (sRot_still) HNU.out y)
   have HST := Lib.hid (fun a => rot_spoil (HS0.out a) HNU.out y)
   have HRR := Lib.hid (fun a => rot_round (HS0.out a) HNU.out y)
   have HSP := Lib.hid (show ∀ a p, (yDo (rotSp l y (rotTo l y sRot a) p) ⟨3, 32 * (p : Int) + l.getD p 0, y, dNo⟩).1 = rotSp l y (rotTo l y sRot a) (p + 1) from fun _ _ => rfl)
   have HSR := Lib.hid (show ∀ a, (scTo (sMount (rotSp l y (rotTo l y sRot a) 6).disk) 6).1 = rotTo l y sRot (a + 1) from fun _ => rfl)
   have HLEN := Lib.hid sRot_len
   have s3 : StoV tS w3 0 v3 (rotTo l y sRot 0) := s3
   have hr0 : Hid (rotTo l y sRot 0 = sRot) := Lib.hid rfl
   generalize sRot = s0 at s3 HS0 HST HRR HSP HSR HLEN hr0
   obtain ⟨A3, n3, c3, E3, m3, e3, F3, k3, f3, rfl, _, _, _, _, _, _, _, _⟩ := s3.form
   have l9 := hx.size
   go_upto_region 12 with (fail)
   generalize hwn : World.alloc w3 _ = w4
   have he : Ext w3 w4 := by rw [← hwn]; exact ext_alloc _ _
   have b9 : Box w4 w3.heap.size 30 #[.slice A3 n3 c3, .slice E3 m3 e3, .slice F3 k3 f3, .int .i64 (rotTo l y s0 0).next] := by rw [← hwn]; exact Box.new _ _ _ (by simp)
   clear hwn
   have hx := ext_trans hx he
   have h := h.ext he
   have s3 := s3.ext he
   clear he
   obtain ⟨g9, hg9⟩ : ∃ g, g = w3.heap.size := ⟨_, rfl⟩
   rw [← hg9] at b9 l9
   rw [← hg9]
   clear hg9
   have HGF := Lib.hid (HS0.out 0).tight.good.fine
   obtain ⟨b9_0, b9_1, b9_2, b9_3⟩ := b9.c4
   have b9_z := b9.free
   have b9_l := b9.lt
   go_wp2_with fail
   refine (stoRecs_v s3 HGF.out.len HGF.out.small).mono ?_
   rintro e5 w5 ⟨v5, rfl, o5, he⟩
   try clear b9_0 b9_1 b9_2 b9_3 b9_z b9_l
   have hx := ext_trans hx he
   have h := h.ext he
   have s3 := s3.ext he
   have b9 := b9.ext he
   clear he
   have r11 := o5.row (T := [54]) (base' := 0) (by decide) (Nat.le_refl _)
   rw [hr0.out] at r11
   clear o5 HGF
   obtain ⟨A11, n11, c11, rfl, hc11, hcm11, HN11⟩ := r11.form
   unfold maxLen at hcm11
   obtain rfl : n11 = 4 := HN11.out.trans ((recs_len s0).trans HLEN.out)
   clear HN11
   have s9 := s3
   clear s3
   go_upto_region 14 with (fail)
   go_loopw [59] (fun i wr => ∃ a : Nat, a ≤ R ∧ i = .int .i64 a ∧ (∃ A n c E m e F k f, Box wr g9 30 #[.slice A n c, .slice E m e, .slice F k f, .int .i64 (rotTo l y s0 a).next] ∧ StoV tS wr 0 (.agg #[.slice A n c, .slice E m e, .slice F k f, .int .i64 (rotTo l y s0 a).next]) (rotTo l y s0 a)) ∧ Row eInt [] wr W.heap.size (.slice A 6 c) l ∧ Row eRec [54] wr 0 (.slice A11 4 c11) (sRecs s0) ∧ Ext W wr) (fun i _ => R - (intOf i).toNat)
   case atStart => exact ⟨0, by omega, rfl, ⟨_, _, _, _, _, _, _, _, _, b9, s9⟩, h, r11, hx⟩
   case round =>
    clear hx b9 s9 h r11 hz
    obtain ⟨a, ha, rfl, ⟨A4, n4, c4, E4, m4, e4, F4, k4, f4, b9, s9⟩, h, r11, hx⟩ := hrel
    have hz := hx.size
    have l9z := b9.lt
    have HS := Lib.hid (HS0.out a)
    have HSTa := Lib.hid (HST.out a)
    have HRRa := Lib.hid (HRR.out a)
    have HSPa := Lib.hid (HSP.out a)
    have HSRa := Lib.hid (HSR.out a)
    by_cases hlt : a < R
    ·have i1 : (a : Int) < (R : Int) := by omega
     generalize hy0 : rotTo l y s0 a = ya at b9 s9 HS HSTa HRRa HSPa HSRa
     have HY0 := Lib.hid hy0
     clear hy0
     have s9 : StoV tS wr 0 (.agg #[.slice A4 n4 c4, .slice E4 m4 e4, .slice F4 k4 f4, .int .i64 (rotSp l y ya 0).next]) (rotSp l y ya 0) := s9
     have b9 : Box wr g9 30 #[.slice A4 n4 c4, .slice E4 m4 e4, .slice F4 k4 f4, .int .i64 (rotSp l y ya 0).next] := b9
     go_upto_region 16 with (fail)
     go_loopw [63] (fun i wr => ∃ p : Nat, p ≤ 6 ∧ i = .int .i64 p ∧ (∃ A n c E m e F k f, Box wr g9 30 #[.slice A n c, .slice E m e, .slice F k f, .int .i64 (rotSp l y ya p).next] ∧ StoV tS wr 0 (.agg #[.slice A n c, .slice E m e, .slice F k f, .int .i64 (rotSp l y ya p).next]) (rotSp l y ya p)) ∧ Row eInt [] wr W.heap.size (.slice A 6 c) l ∧ Row eRec [54] wr 0 (.slice A11 4 c11) (sRecs s0) ∧ Ext W wr) (fun i _ => 6 - (intOf i).toNat)
     case atStart => exact ⟨0, by omega, rfl, ⟨_, _, _, _, _, _, _, _, _, b9, s9⟩, h, r11, hx⟩
     case round =>
      clear hx b9 s9 h r11 hz l9z
      obtain ⟨p, hp, rfl, ⟨A4, n4, c4, E4, m4, e4, F4, k4, f4, b9, s9⟩, h, r11, hx⟩ := hrel
      have hz := hx.size
      have l9z := b9.lt
      have HG := Lib.hid (HSTa.out p hp).1
      by_cases hp6 : p < 6
      ·have i0 : (0 : Int) ≤ (p : Int) := by omega
       have i2 : (p : Int) < 6 := by omega
       obtain ⟨g5, o5, rfl, hg5, cu⟩ := h.int_at (i := p) hp6
       have HSPp := Lib.hid (HSPa.out p)
       have hnu := HNU.out p
       generalize l.getD p 0 = x at cu HSPp hnu
       have hw1 : IntKind.wrap .i64 (32 * (p : Int)) = 32 * (p : Int) := by rw [IntKind.wrap_i64]; omega
       have hw2 : IntKind.wrap .i64 (32 * (p : Int) + x) = 32 * (p : Int) + x := by rw [IntKind.wrap_i64]; omega
       clear hnu
       obtain ⟨b9_0, b9_1, b9_2, b9_3⟩ := b9.c4
       have b9_z := b9.free
       have b9_l := b9.lt
       go_wp2_with fail
       refine (playDo_v (x := ⟨3, 32 * (p : Int) + x, y, dNo⟩) s9 HG.out.good ⟨_, rfl, ByT.nil _ 0⟩).mono ?_
       rintro e5 w6 ⟨v5, rfl, s5, he⟩
       try clear b9_0 b9_1 b9_2 b9_3 b9_z b9_l
       have hx := ext_trans hx he
       have h := h.ext he
       have b9 := b9.ext he
       have r11 := r11.ext he
       clear he
       rw [HSPp.out] at s5
       generalize (yDo (rotSp l y ya p) ⟨3, 32 * (p : Int) + x, y, dNo⟩).2.1 = nn
       generalize (yDo (rotSp l y ya p) ⟨3, 32 * (p : Int) + x, y, dNo⟩).2.2 = qq
       clear s9 HSPp HG cu hg5 hw1 hw2
       generalize rotSp l y ya p = yp at b9
       generalize hz1 : rotSp l y ya (p + 1) = z at s5
       have HZ := Lib.hid hz1
       clear hz1
       obtain ⟨A5, n5, c5, E5, m5, e5, F5, k5, f5, rfl, _, _, _, _, _, _, _, _⟩ := s5.form
       have kb := b9.kd
       obtain ⟨b9_0, b9_1, b9_2, b9_3⟩ := b9.c4
       have b9_z := b9.free
       have b9_l := b9.lt
       go_upto_region 19 with (fail)
       try clear b9_0 b9_1 b9_2 b9_3 b9_z b9_l
       generalize hwn : World.setCell (World.setCell (World.setCell (World.setCell w6 _ _) _ _) _ _) _ _ = w7
       have s5 := s5.kept (w' := w7) (by rw [← hwn]; (repeat (with_reducible (first | assumption | exact Kept.refl _ _ _ | (apply Kept.setK; rotate_left; (repeat (first | assumption | apply Kd.set | apply Kd.alloc | apply Kd.drew)); decide; omega) | refine Kept.allocK ?_ _ | refine Kept.drewK ?_))))
       have h := h.kept (w' := w7) (by rw [← hwn]; (repeat (with_reducible (first | assumption | exact Kept.refl _ _ _ | (apply Kept.setK; rotate_left; (repeat (first | assumption | apply Kd.set | apply Kd.alloc | apply Kd.drew)); decide; omega) | refine Kept.allocK ?_ _ | refine Kept.drewK ?_))))
       have r11 := r11.kept (w' := w7) (by rw [← hwn]; (repeat (with_reducible (first | assumption | exact Kept.refl _ _ _ | (apply Kept.setK; rotate_left; (repeat (first | assumption | apply Kd.set | apply Kd.alloc | apply Kd.drew)); decide; omega) | refine Kept.allocK ?_ _ | refine Kept.drewK ?_))))
       have hx : Ext W w7 := by rw [← hwn]; (repeat (with_reducible (first | assumption | exact Below.refl _ _ | refine Below.setCell ?_ (by simp <;> omega) _ | refine Below.alloc ?_ (by simp <;> omega) _ | refine Below.drew ?_ | refine below_drewN ?_ _)))
       have b9 : Box w7 g9 30 #[.slice A5 n5 c5, .slice E5 m5 e5, .slice F5 k5 f5, .int .i64 z.next] := by rw [← hwn]; exact (((b9.set 0 _).set 1 _).set 2 _).set 3 _
       clear hwn kb
       go_wp2_with fail
       refine ⟨⟨p + 1, by omega, rfl, ⟨_, _, _, _, _, _, _, _, _, by rw [HZ.out]; exact b9, by rw [HZ.out]; exact s5⟩, h, r11, hx⟩, ?_⟩
       simp only [intOf]
       omega
      ·obtain rfl : p = 6 := by omega
       obtain ⟨t1, t2, t3⟩ := HRRa.out
       have HG2 := Lib.hid t1
       have HI2 := Lib.hid (show (sMount (rotSp l y ya 6).disk).index.length = 4 by rw [t2]; exact HLEN.out)
       clear t1 t2 t3
       obtain ⟨b9_0, b9_1, b9_2, b9_3⟩ := b9.c4
       have b9_z := b9.free
       have b9_l := b9.lt
       go_wp2_with fail
       refine (playDo_v (x := ⟨6, 0, 0, dNo⟩) s9 HG.out.good ⟨_, rfl, ByT.nil _ 0⟩).mono ?_
       rintro e5 w6 ⟨v5, rfl, s5, he⟩
       try clear b9_0 b9_1 b9_2 b9_3 b9_z b9_l
       have hx := ext_trans hx he
       have h := h.ext he
       have b9 := b9.ext he
       have r11 := r11.ext he
       clear he
       rw [mount_of] at s5
       generalize (yDo (rotSp l y ya 6) ⟨6, 0, 0, dNo⟩).2.1 = nn
       generalize (yDo (rotSp l y ya 6) ⟨6, 0, 0, dNo⟩).2.2 = qq
       clear s9 HG
       generalize sMount (rotSp l y ya 6).disk = z at s5 HG2 HI2 HSRa
       generalize rotSp l y ya 6 = yp at b9
       obtain ⟨A5, n5, c5, E5, m5, e5, F5, k5, f5, rfl, _, _, _, _, HK, _, _, _⟩ := s5.form
       obtain rfl : k5 = 4 := HK.out.trans HI2.out
       clear HK HI2
       have kb := b9.kd
       obtain ⟨b9_0, b9_1, b9_2, b9_3⟩ := b9.c4
       have b9_z := b9.free
       have b9_l := b9.lt
       go_upto_region 21 with (fail)
       try clear b9_0 b9_1 b9_2 b9_3 b9_z b9_l
       generalize hwn : World.setCell (World.setCell (World.setCell (World.setCell w6 _ _) _ _) _ _) _ _ = w7
       have s5 := s5.kept (w' := w7) (by rw [← hwn]; (repeat (with_reducible (first | assumption | exact Kept.refl _ _ _ | (apply Kept.setK; rotate_left; (repeat (first | assumption | apply Kd.set | apply Kd.alloc | apply Kd.drew)); decide; omega) | refine Kept.allocK ?_ _ | refine Kept.drewK ?_))))
       have h := h.kept (w' := w7) (by rw [← hwn]; (repeat (with_reducible (first | assumption | exact Kept.refl _ _ _ | (apply Kept.setK; rotate_left; (repeat (first | assumption | apply Kd.set | apply Kd.alloc | apply Kd.drew)); decide; omega) | refine Kept.allocK ?_ _ | refine Kept.drewK ?_))))
       have r11 := r11.kept (w' := w7) (by rw [← hwn]; (repeat (with_reducible (first | assumption | exact Kept.refl _ _ _ | (apply Kept.setK; rotate_left; (repeat (first | assumption | apply Kd.set | apply Kd.alloc | apply Kd.drew)); decide; omega) | refine Kept.allocK ?_ _ | refine Kept.drewK ?_))))
       have hx : Ext W w7 := by rw [← hwn]; (repeat (with_reducible (first | assumption | exact Below.refl _ _ | refine Below.setCell ?_ (by simp <;> omega) _ | refine Below.alloc ?_ (by simp <;> omega) _ | refine Below.drew ?_ | refine below_drewN ?_ _)))
       have b9 : Box w7 g9 30 #[.slice A5 n5 c5, .slice E5 m5 e5, .slice F5 4 f5, .int .i64 z.next] := by rw [← hwn]; exact (((b9.set 0 _).set 1 _).set 2 _).set 3 _
       clear hwn kb
       obtain ⟨b9_0, b9_1, b9_2, b9_3⟩ := b9.c4
       have b9_z := b9.free
       have b9_l := b9.lt
       go_wp2_with fail
       refine (scAll_v (base := 0) (Nat.zero_le _) s5 HG2.out.good).mono ?_
       rintro e8 w8 ⟨v8, rfl, s8, he⟩
       try clear b9_0 b9_1 b9_2 b9_3 b9_z b9_l
       have hx := ext_trans hx he
       have h := h.ext he
       have b9 := b9.ext he
       have r11 := r11.ext he
       clear he
       rw [HSRa.out] at s8
       generalize hz2 : rotTo l y s0 (a + 1) = z2 at s8
       have HZ2 := Lib.hid hz2
       clear hz2 s5 HG2 HSRa
       generalize repC (scTo z 6).2 = rep
       have s5 := s8
       clear s8
       obtain ⟨A6, n6, c6, E6, m6, e6, F6, k6, f6, rfl, _, _, _, _, _, _, _, _⟩ := s5.form
       have kb := b9.kd
       obtain ⟨b9_0, b9_1, b9_2, b9_3⟩ := b9.c4
       have b9_z := b9.free
       have b9_l := b9.lt
       go_upto_region 24 with (fail)
       try clear b9_0 b9_1 b9_2 b9_3 b9_z b9_l
       generalize hwn : World.setCell (World.setCell (World.setCell (World.setCell w8 _ _) _ _) _ _) _ _ = w9
       have s5 := s5.kept (w' := w9) (by rw [← hwn]; (repeat (with_reducible (first | assumption | exact Kept.refl _ _ _ | (apply Kept.setK; rotate_left; (repeat (first | assumption | apply Kd.set | apply Kd.alloc | apply Kd.drew)); decide; omega) | refine Kept.allocK ?_ _ | refine Kept.drewK ?_))))
       have h := h.kept (w' := w9) (by rw [← hwn]; (repeat (with_reducible (first | assumption | exact Kept.refl _ _ _ | (apply Kept.setK; rotate_left; (repeat (first | assumption | apply Kd.set | apply Kd.alloc | apply Kd.drew)); decide; omega) | refine Kept.allocK ?_ _ | refine Kept.drewK ?_))))
       have r11 := r11.kept (w' := w9) (by rw [← hwn]; (repeat (with_reducible (first | assumption | exact Kept.refl _ _ _ | (apply Kept.setK; rotate_left; (repeat (first | assumption | apply Kd.set | apply Kd.alloc | apply Kd.drew)); decide; omega) | refine Kept.allocK ?_ _ | refine Kept.drewK ?_))))
       have hx : Ext W w9 := by rw [← hwn]; (repeat (with_reducible (first | assumption | exact Below.refl _ _ | refine Below.setCell ?_ (by simp <;> omega) _ | refine Below.alloc ?_ (by simp <;> omega) _ | refine Below.drew ?_ | refine below_drewN ?_ _)))
       have b9 : Box w9 g9 30 #[.slice A6 n6 c6, .slice E6 m6 e6, .slice F6 k6 f6, .int .i64 z2.next] := by rw [← hwn]; exact (((b9.set 0 _).set 1 _).set 2 _).set 3 _
       clear hwn kb
       go_wp2_with fail
       refine ⟨⟨a + 1, by omega, rfl, ⟨_, _, _, _, _, _, _, _, _, by rw [HZ2.out]; exact b9, by rw [HZ2.out]; exact s5⟩, h, r11, hx⟩, ?_⟩
       simp only [intOf]
       omega
    ·obtain rfl : a = R := by omega
     obtain ⟨g3, eR⟩ : ∃ x, x = rotTo l y s0 a := ⟨_, rfl⟩
     have HEQ := Lib.hid (recs_of_index (show g3.index = s0.index by rw [eR]; exact HS.out.index))
     have HGF := Lib.hid (show StoF g3 by rw [eR]; exact HS.out.tight.good.fine)
     rw [← eR] at b9 s9
     clear eR HS HSTa HRRa HSPa HSRa HS0 HST HRR HSP HSR hr0
     obtain ⟨b9_0, b9_1, b9_2, b9_3⟩ := b9.c4
     have b9_z := b9.free
     have b9_l := b9.lt
     go_wp2_with fail
     refine (stoRecs_v s9 HGF.out.len HGF.out.small).mono ?_
     rintro e5 w5 ⟨v5, rfl, o5, he⟩
     try clear b9_0 b9_1 b9_2 b9_3 b9_z b9_l
     have hx := ext_trans hx he
     have b9 := b9.ext he
     have r11 := r11.ext he
     clear he
     have r14 := o5.row (T := [54]) (base' := 0) (by decide) (Nat.le_refl _)
     rw [HEQ.out] at r14
     clear o5 HGF s9 b9 h HEQ
     obtain ⟨A14, n14, c14, rfl, hc14, hcm14, HN14⟩ := r14.form
     unfold maxLen at hcm14
     obtain rfl : n14 = 4 := HN14.out.trans ((recs_len s0).trans HLEN.out)
     clear HN14
     generalize sRecs s0 = rs at r11 r14
     go_upto_region 29 with (fail)
     go_loopw [118] (fun i wr => ∃ j : Nat, j ≤ 4 ∧ i = .int .i64 j ∧ Ext w5 wr) (fun i _ => 4 - (intOf i).toNat)
     case atStart => exact ⟨0, by omega, rfl, Below.refl _ _⟩
     case round =>
      obtain ⟨j, hj, rfl, hd⟩ := hrel
      have hzd := hd.size
      by_cases hj4 : j < 4
      ·have i0 : (0 : Int) ≤ (j : Int) := by omega
       have i1 : (j : Int) < 4 := by omega
       obtain ⟨g1, o1, u1, rfl, hg1, hu1, f1⟩ := r14.rec_x hj4
       obtain ⟨g2, o2, u2, rfl, hg2, hu2, f2⟩ := r11.rec_x hj4
       generalize rs.getD j rZero = r at f1 f2 hu1 hu2
       obtain ⟨AX, nx, cx, rfl, _, _⟩ := hu1.form
       obtain ⟨AY, ny, cy, rfl, _, _⟩ := hu2.form
       obtain ⟨x0, x1, x2, x3⟩ := f1 _ hd
       go_upto_region 31 with (fail)
       generalize hwn : World.alloc wr _ = w6
       have he : Ext wr w6 := by rw [← hwn]; exact ext_alloc _ _
       have b16 : Box w6 wr.heap.size 54 #[.int .i64 r.kind, .int .i64 r.key, .int .i64 r.ver, .slice AX nx cx] := by rw [← hwn]; exact Box.new _ _ _ (by simp)
       clear hwn x0 x1 x2 x3
       have hd := ext_trans hd he
       obtain ⟨y0, y1, y2, y3⟩ := f2 _ hd
       obtain ⟨z0, z1, z2, z3⟩ := b16.c4
       obtain ⟨_, _, _, ex, hbx, _⟩ := (hu1.ext hd).form
       cases ex
       obtain ⟨_, _, _, ey, hby, _⟩ := (hu2.ext hd).form
       cases ey
       have hs1 := fun k => run_str (l := r.data) (Sl.drewN hbx k)
       have hs2 := fun k => run_str (l := r.data) (Sl.drewN hby k)
       obtain ⟨ab, hab⟩ : ∃ b : ByteArray, b = ⟨r.data.toArray⟩ := ⟨_, rfl⟩
       rw [← hab] at hs1 hs2
       have qs : (ab.toList == ab.toList) = true := by simp
       clear hab he hu1 hu2 hbx hby f1 f2 hg1 hg2
       go_wp2_with fail
       go_quiet (fail)
       go_wp2_with fail
       refine ⟨⟨j + 1, by omega, rfl, below_drewN hd _⟩, ?_⟩
       simp only [intOf]
       omega
      ·obtain rfl : j = 4 := by omega
       go_wp2_with fail
       go_ret
       exact ⟨rfl, ext_trans hx hd⟩
end Go.Proofs.YtdmnmfnmaccmoaaGreatDoor
