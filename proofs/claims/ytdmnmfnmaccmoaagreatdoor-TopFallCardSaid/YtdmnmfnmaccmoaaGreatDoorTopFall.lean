/- The law TopFall: who is not answered may ask again. -/
import Derived.Test.YtdmnmfnmaccmoaaGreatDoorTpA
namespace Go.Proofs.YtdmnmfnmaccmoaaGreatDoor
open Go Go.RowKit
set_option maxRecDepth 100000 in
set_option maxHeartbeats 4000000 in
theorem topFall_law (W : World) (hV : VarT W) {v : Value} {l : List UInt8} {bits again : Int} (h : ByT W W.heap.size v l) :
  Calls Tryz.prog 3 #[v, .int .i64 bits, .int .i64 again] W fun e w' => e = .returned (.bool true) ∧ Below W.heap.size W w' := by
 obtain ⟨A, n, c, rfl, _, HN⟩ := h.form
 have hx : Ext W W := Below.refl _ _
 go_enter Tryz.func3, Tryz.ntmps3
 go_wp2_with fail
 refine (aliveT_w hV).mono ?_
 rintro e1 w1 ⟨rfl, he⟩
 have hx := ext_trans hx he
 have h := h.ext he
 clear he
 by_cases h8 : 8 < n
 ·have q1 : decide ((8 : Int) < (n : Int)) = true := by simp; omega
  have q2 : decide (8 < n) = true := by simp; omega
  clear h8
  go_wp2_with fail
  go_ret
  exact ⟨rfl, hx⟩
 have q1 : decide ((8 : Int) < (n : Int)) = false := by simp; omega
 have q2 : decide (8 < n) = false := by simp; omega
 by_cases a0 : again < 0
 ·have q3 : decide (again < 0) = true := by simpa using a0
  clear h8 a0
  go_wp2_with fail
  go_ret
  exact ⟨rfl, hx⟩
 have q3 : decide (again < 0) = false := by simpa using a0
 by_cases a3 : 3 < again
 ·have q4 : decide (3 < again) = true := by simpa using a3
  clear h8 a0 a3
  go_wp2_with fail
  go_ret
  exact ⟨rfl, hx⟩
 have q4 : decide (3 < again) = false := by simpa using a3
 have HL8 := Lib.hid (show l.length ≤ 8 by have := HN.out; omega)
 obtain ⟨a, ea⟩ : ∃ a : Nat, again = (a : Int) := ⟨again.toNat, by omega⟩
 have ha3 : a ≤ 3 := by omega
 have HV := Lib.hid hV
 subst ea
 clear h8 a0 a3 hV
 go_wp2_with fail
 generalize hwn : World.alloc w1 _ = w2
 have he : Ext w1 w2 := by rw [← hwn]; exact ext_alloc _ _
 have bs : Box w2 w1.heap.size 9 (strs (wF.map tPrint)).toArray := by rw [← hwn, wF_is]; exact Box.new _ _ _ rfl
 clear hwn q1 q2 q3 q4
 have hx := ext_trans hx he
 have h := h.ext he
 clear he
 refine (done_v (HV.out.ext hx) wF wF_runs (by decide) bs).mono ?_
 rintro e3 w3 ⟨v3, rfl, s3, he⟩
 have hx := ext_trans hx he
 have h := h.ext he
 clear he bs
 rw [show wF.length = 1 from rfl] at s3
 have HT := Lib.hid (fun a' => fall_inv (dTo_tight wF 1) (b := l) bits wF_len wF_ver a')
 have HF := Lib.hid (top_fall (dTo_tight wF 1) HL8.out bits wF_len wF_ver ha3)
 have HS := Lib.hid (show ∀ a', (yDo (fallTo (dTo wF 1) (dPut7 7 l) bits a') ⟨2, bits, 0, dPut7 7 l⟩).1 = fallTo (dTo wF 1) (dPut7 7 l) bits (a' + 1) from fun _ => rfl)
 have s3 : StoV tS w3 0 v3 (fallTo (dTo wF 1) (dPut7 7 l) bits 0) := s3
 generalize dTo wF 1 = s0 at s3 HT HF HS
 obtain ⟨A3, n3, c3, E3, m3, e3, F3, k3, f3, rfl, _, _, _, _, _, _, _, _⟩ := s3.form
 have l7 := hx.size
 go_upto_region 6 with (fail)
 generalize hwn : World.alloc w3 _ = w4
 have he : Ext w3 w4 := by rw [← hwn]; exact ext_alloc _ _
 have b7 : Box w4 w3.heap.size 30 #[.slice A3 n3 c3, .slice E3 m3 e3, .slice F3 k3 f3, .int .i64 (fallTo s0 (dPut7 7 l) bits 0).next] := by rw [← hwn]; exact Box.new _ _ _ (by simp)
 clear hwn
 have hx := ext_trans hx he
 have h := h.ext he
 have s3 := s3.ext he
 clear he
 obtain ⟨g7, hg7⟩ : ∃ g, g = w3.heap.size := ⟨_, rfl⟩
 rw [← hg7] at b7 l7
 rw [← hg7]
 clear hg7
 have l9 := b7.lt
 go_upto_region 7 with (fail)
 generalize hwn : World.alloc w4 _ = w5
 have he : Ext w4 w5 := by rw [← hwn]; exact ext_alloc _ _
 have b9 : Box w5 w4.heap.size 34 #[.int .i64 1, .int .i64 7, .int .i64 0, .slice A n c] := by rw [← hwn]; exact Box.new _ _ _ (by simp)
 clear hwn
 have hx := ext_trans hx he
 have h := h.ext he
 have s3 := s3.ext he
 have b7 := b7.ext he
 clear he
 obtain ⟨g9, hg9⟩ : ∃ g, g = w4.heap.size := ⟨_, rfl⟩
 rw [← hg9] at b9 l9
 rw [← hg9]
 clear hg9
 have s7 := s3
 clear s3
 go_upto_region 8 with (fail)
 go_loopw [35] (fun i wr => ∃ a' : Nat, a' ≤ a ∧ i = .int .i64 a' ∧ (∃ A n c E m e F k f, Box wr g7 30 #[.slice A n c, .slice E m e, .slice F k f, .int .i64 (fallTo s0 (dPut7 7 l) bits a').next] ∧ StoV tS wr 0 (.agg #[.slice A n c, .slice E m e, .slice F k f, .int .i64 (fallTo s0 (dPut7 7 l) bits a').next]) (fallTo s0 (dPut7 7 l) bits a')) ∧ Box wr g9 34 #[.int .i64 1, .int .i64 7, .int .i64 0, .slice A n c] ∧ ByT wr W.heap.size (.slice A n c) l ∧ Ext W wr) (fun i _ => a - (intOf i).toNat)
 case atStart => exact ⟨0, by omega, rfl, ⟨_, _, _, _, _, _, _, _, _, b7, s7⟩, b9, h, hx⟩
 case round =>
  clear hx b7 b9 s7 h
  obtain ⟨a', ha', rfl, ⟨A4, n4, c4, E4, m4, e4, F4, k4, f4, b7, s7⟩, b9, h, hx⟩ := hrel
  have hz := hx.size
  have l7z := b7.lt
  have hg := (HT.out a').1
  have HG := Lib.hid hg
  clear hg
  by_cases hlt : a' < a
  ·have i0 : (0 : Int) ≤ (a' : Int) := by omega
   have i1 : (a' : Int) < (a : Int) := by omega
   have HS1 := Lib.hid (HS.out a')
   obtain ⟨b7_0, b7_1, b7_2, b7_3⟩ := b7.c4
   have b7_z := b7.free
   have b7_l := b7.lt
   obtain ⟨b9_0, b9_1, b9_2, b9_3⟩ := b9.c4
   have b9_z := b9.free
   have b9_l := b9.lt
   go_wp2_with fail
   refine (playDo_v (x := ⟨2, bits, 0, dPut7 7 l⟩) s7 HG.out.good ⟨_, rfl, h⟩).mono ?_
   rintro e5 w6 ⟨v5, rfl, s5, he⟩
   try clear b7_0 b7_1 b7_2 b7_3 b7_z b7_l b9_0 b9_1 b9_2 b9_3 b9_z b9_l
   have hx := ext_trans hx he
   have h := h.ext he
   have b7 := b7.ext he
   have b9 := b9.ext he
   clear he
   rw [HS1.out] at s5
   generalize (yDo (fallTo s0 (dPut7 7 l) bits a') ⟨2, bits, 0, dPut7 7 l⟩).2.1 = nn
   generalize (yDo (fallTo s0 (dPut7 7 l) bits a') ⟨2, bits, 0, dPut7 7 l⟩).2.2 = qq
   clear s7 HS1 HG
   generalize fallTo s0 (dPut7 7 l) bits a' = y at b7
   generalize hz1 : fallTo s0 (dPut7 7 l) bits (a' + 1) = z at s5
   have HZ := Lib.hid hz1
   clear hz1
   obtain ⟨A5, n5, c5, E5, m5, e5, F5, k5, f5, rfl, _, _, _, _, _, _, _, _⟩ := s5.form
   have kb := b7.kd
   obtain ⟨b7_0, b7_1, b7_2, b7_3⟩ := b7.c4
   have b7_z := b7.free
   have b7_l := b7.lt
   go_upto_region 10 with (fail)
   try clear b7_0 b7_1 b7_2 b7_3 b7_z b7_l
   generalize hwn : World.setCell (World.setCell (World.setCell (World.setCell w6 _ _) _ _) _ _) _ _ = w7
   have s5 := s5.kept (w' := w7) (by rw [← hwn]; (repeat (with_reducible (first | assumption | exact Kept.refl _ _ _ | (apply Kept.setK; rotate_left; (repeat (first | assumption | apply Kd.set | apply Kd.alloc | apply Kd.drew)); decide; omega) | refine Kept.allocK ?_ _ | refine Kept.drewK ?_))))
   have h := h.kept (T := []) (w' := w7) (by rw [← hwn]; (repeat (with_reducible (first | assumption | exact Kept.refl _ _ _ | (apply Kept.setK; rotate_left; (repeat (first | assumption | apply Kd.set | apply Kd.alloc | apply Kd.drew)); decide; omega) | refine Kept.allocK ?_ _ | refine Kept.drewK ?_))))
   have hx : Ext W w7 := by rw [← hwn]; (repeat (with_reducible (first | assumption | exact Below.refl _ _ | refine Below.setCell ?_ (by simp <;> omega) _ | refine Below.alloc ?_ (by simp <;> omega) _ | refine Below.drew ?_ | refine below_drewN ?_ _)))
   have b9 : Box w7 g9 34 #[.int .i64 1, .int .i64 7, .int .i64 0, .slice A n c] := by rw [← hwn]; (repeat (with_reducible (first | assumption | refine Box.alloc ?_ _ | refine Box.setOther ?_ (by simp <;> omega) _)))
   have b7 : Box w7 g7 30 #[.slice A5 n5 c5, .slice E5 m5 e5, .slice F5 k5 f5, .int .i64 z.next] := by rw [← hwn]; exact (((b7.set 0 _).set 1 _).set 2 _).set 3 _
   clear hwn kb
   go_wp2_with fail
   refine ⟨⟨a' + 1, by omega, rfl, ⟨_, _, _, _, _, _, _, _, _, by rw [HZ.out]; exact b7, by rw [HZ.out]; exact s5⟩, b9, h, hx⟩, ?_⟩
   simp only [intOf]
   omega
  ·obtain rfl : a' = a := by omega
   obtain ⟨f1, f2, f3, f4, f5⟩ := HF.out
   have HF1 := Lib.hid f1
   have HF2 := Lib.hid f2
   have HF3 := Lib.hid f3
   have HF4 := Lib.hid (And.intro f4 f5)
   clear f1 f2 f3 f4 f5 HF HS HT
   obtain ⟨b7_0, b7_1, b7_2, b7_3⟩ := b7.c4
   have b7_z := b7.free
   have b7_l := b7.lt
   obtain ⟨b9_0, b9_1, b9_2, b9_3⟩ := b9.c4
   have b9_z := b9.free
   have b9_l := b9.lt
   go_wp2_with fail
   refine (playDo_v (x := ⟨1, 0, 0, dPut7 7 l⟩) s7 HG.out.good ⟨_, rfl, h⟩).mono ?_
   rintro e5 w6 ⟨v5, rfl, s5, he⟩
   try clear b7_0 b7_1 b7_2 b7_3 b7_z b7_l b9_0 b9_1 b9_2 b9_3 b9_z b9_l
   have hx := ext_trans hx he
   have h := h.ext he
   have b7 := b7.ext he
   have b9 := b9.ext he
   clear he
   rw [do_is] at s5
   rw [do_is, HF1.out]
   generalize (sDo (fallTo s0 (dPut7 7 l) bits a') (dPut7 7 l)).2.1 = nn
   clear s7 HF1 HG b9
   generalize (sDo (fallTo s0 (dPut7 7 l) bits a') (dPut7 7 l)).1 = z at s5 HF2 HF3 HF4
   generalize fallTo s0 (dPut7 7 l) bits a' = y at b7
   obtain ⟨A5, n5, c5, E5, m5, e5, F5, k5, f5, rfl, _, _, _, _, HK, _, _, _⟩ := s5.form
   have kb := b7.kd
   obtain ⟨b7_0, b7_1, b7_2, b7_3⟩ := b7.c4
   have b7_z := b7.free
   have b7_l := b7.lt
   go_upto_region 12 with (fail)
   try clear b7_0 b7_1 b7_2 b7_3 b7_z b7_l
   generalize hwn : World.setCell (World.setCell (World.setCell (World.setCell w6 _ _) _ _) _ _) _ _ = w7
   have s5 := s5.kept (w' := w7) (by rw [← hwn]; (repeat (with_reducible (first | assumption | exact Kept.refl _ _ _ | (apply Kept.setK; rotate_left; (repeat (first | assumption | apply Kd.set | apply Kd.alloc | apply Kd.drew)); decide; omega) | refine Kept.allocK ?_ _ | refine Kept.drewK ?_))))
   have h := h.kept (T := []) (w' := w7) (by rw [← hwn]; (repeat (with_reducible (first | assumption | exact Kept.refl _ _ _ | (apply Kept.setK; rotate_left; (repeat (first | assumption | apply Kd.set | apply Kd.alloc | apply Kd.drew)); decide; omega) | refine Kept.allocK ?_ _ | refine Kept.drewK ?_))))
   have hx : Ext W w7 := by rw [← hwn]; (repeat (with_reducible (first | assumption | exact Below.refl _ _ | refine Below.setCell ?_ (by simp <;> omega) _ | refine Below.alloc ?_ (by simp <;> omega) _ | refine Below.drew ?_ | refine below_drewN ?_ _)))
   have b7 : Box w7 g7 30 #[.slice A5 n5 c5, .slice E5 m5 e5, .slice F5 k5 f5, .int .i64 z.next] := by rw [← hwn]; exact (((b7.set 0 _).set 1 _).set 2 _).set 3 _
   clear hwn kb
   obtain ⟨b7_0, b7_1, b7_2, b7_3⟩ := b7.c4
   have b7_z := b7.free
   have b7_l := b7.lt
   go_wp2_with fail
   refine (stoGet_v (key := 7) s5 HF3.out.good.fine HF3.out.good.right).mono ?_
   rintro e8 w8 ⟨v8, q8, rfl, HQ, hy, he⟩
   try clear b7_0 b7_1 b7_2 b7_3 b7_z b7_l
   have hx := ext_trans hx he
   have h := h.ext he
   have b7 := b7.ext he
   clear he
   rw [HF2.out] at HQ hy
   obtain rfl : q8 = 0 := HQ.out
   obtain ⟨A8, n8, c8, rfl, hy, HN8⟩ := hy.form
   obtain ⟨A9, n9, c9, e9, hy9, HN9⟩ := h.form
   obtain ⟨rfl, rfl, rfl⟩ : A = A9 ∧ n = n9 ∧ c = c9 := by simpa using e9
   have hs8 := run_str hy
   have hs9 := run_str hy9
   obtain ⟨ab, hab⟩ : ∃ b : ByteArray, b = ⟨l.toArray⟩ := ⟨_, rfl⟩
   rw [← hab] at hs8 hs9
   have qs : (ab.toList == ab.toList) = true := by simp
   have hk5 : 2 ≤ k5 ∧ k5 ≤ 2 + a' := by rw [HK.out]; exact HF4.out
   have r1 : decide ((2 : Int) ≤ (k5 : Int)) = true := by simp; omega
   have r2 : decide (2 ≤ k5) = true := by simp; omega
   have r3 : decide ((k5 : Int) ≤ 2 + (a' : Int)) = true := by simp; omega
   have hw2 : IntKind.wrap .i64 (2 + (a' : Int)) = 2 + (a' : Int) := by rw [IntKind.wrap_i64]; omega
   clear hab HQ HN8 HN9 e9 hy hy9 HK hk5 HF2 HF4
   obtain ⟨b7_0, b7_1, b7_2, b7_3⟩ := b7.c4
   have b7_z := b7.free
   have b7_l := b7.lt
   go_wp2_with fail
   go_ret
   exact ⟨rfl, hx⟩
end Go.Proofs.YtdmnmfnmaccmoaaGreatDoor
