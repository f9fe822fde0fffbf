/- Walks: the closed fact of chapter 9. -/
import Derived.Test.YtpidjkadpnjahaaSc9
import Derived.Test.YtpidjkadpnjahaaSc6
import Derived.Test.YtpidjkadpnjahaaSc2
namespace Go.Proofs.Ytpidjkadpnjahaa
open Go Go.RowKit
def uD : Ded := ⟨1, 7, 0, []⟩
def u0 : Sto := (sDo sNew uD).1
def u1 : Sto := ⟨dSpoil u0.disk 0 2 1, u0.index, u0.next⟩
theorem u0_good : sGood u0 := do_good new_good uD
theorem u1_good : sGood u1 := ⟨spoil_good u0_good.disk 0 2 1, u0_good.right, u0_good.pairs, u0_good.next⟩
theorem u1_how : (scOne u1).2 = 2 := by decide +kernel
theorem u1_next : (scOne u1).1.next = 1 := by decide +kernel
theorem u1_len : (scOne u1).1.index.length = 1 := by decide +kernel
theorem u1_all : (scTo u1 6).2 = [2, 0, 0, 0, 0, 0] := by decide +kernel
theorem u1_next6 : (scTo u1 6).1.next = 0 := by decide +kernel
theorem u1_look : scHows (scTo u1 6).1.disk ((scTo u1 6).1.disk.blocks.length / 2) = [1, 0, 0, 0, 0, 0] := by decide +kernel
theorem u1_rep : repC [2, 0, 0, 0, 0, 0] = #[.int .i64 5, .int .i64 0, .int .i64 1, .int .i64 0, .int .i64 0, .int .i64 0] := rfl
theorem u1_rep1 : repC [1, 0, 0, 0, 0, 0] = #[.int .i64 5, .int .i64 1, .int .i64 0, .int .i64 0, .int .i64 0, .int .i64 0] := rfl
set_option maxRecDepth 100000 in
set_option maxHeartbeats 4000000 in
theorem alive9_w (w : World) : Calls Try.prog 94 #[] w fun e w' => e = .returned (.bool true) ∧ Ext w w' := by
 have hx : Ext w w := Below.refl _ _
 go_enter Try.func94, Try.ntmps94
 go_wp2_with fail
 refine (refStoNew_v _).mono ?_
 rintro e1 w1 ⟨v1, rfl, s1, he⟩
 have hx := ext_trans hx he
 clear he
 go_wp2_with fail
 refine (refStoDo_v (d := uD) (Nat.zero_le _) s1 new_good ⟨_, rfl, ByT.nil _ _⟩).mono ?_
 rintro e2 w2 ⟨v2, rfl, s2, he⟩
 have hx := ext_trans hx he
 clear he
 clear s1
 rw [show (sDo sNew uD).1 = u0 from rfl] at s2
 obtain ⟨A, n, c, E, m, e, F, k, f, rfl, d2, i2, _, _, _, _, _, _⟩ := s2.form
 clear s2
 go_upto_region 2 with (fail)
 generalize hwn : World.alloc w2 _ = w3
 have he : Ext w2 w3 := by rw [← hwn]; exact ext_alloc _ _
 have b1 : Box w3 w2.heap.size 100 #[.slice A n c, .slice E m e, .slice F k f, .int .i64 u0.next] := by rw [← hwn]; exact Box.new _ _ _ (by simp)
 clear hwn
 have l1 := hx.size
 have hx := ext_trans hx he
 have d2 := d2.ext he
 have i2 := i2.ext he
 clear he
 obtain ⟨g1, hg1⟩ : ∃ g, g = w2.heap.size := ⟨_, rfl⟩
 rw [← hg1] at b1 l1 ⊢
 clear hg1
 obtain ⟨b1_0, b1_1, b1_2, b1_3⟩ := b1.c4
 have b1_z := b1.free
 have b1_l := b1.lt
 go_wp2_with fail
 refine (refSpoil_v (T := tS) (k := 0) (n := 2) (y := 1) tDS (Nat.zero_le _) d2 (good_fine u0_good.disk).ok).mono ?_
 rintro e4 w4 ⟨v4, rfl, d4, he⟩
 try clear b1_0 b1_1 b1_2 b1_3 b1_z b1_l
 have hx := ext_trans hx he
 have i2 := i2.ext he
 have b1 := b1.ext he
 clear he
 clear d2
 obtain ⟨A4, n4, c4, E4, m4, e4, rfl, _, _, _, _, _, _⟩ := d4.form
 have kb := b1.kd
 obtain ⟨b1_0, b1_1, b1_2, b1_3⟩ := b1.c4
 have b1_z := b1.free
 have b1_l := b1.lt
 go_upto_region 3 with (fail)
 try clear b1_0 b1_1 b1_2 b1_3 b1_z b1_l
 generalize hwn : World.setCell (World.setCell w4 _ _) _ _ = w5
 have d4 : DskV tS w5 0 (.agg #[.slice A4 n4 c4, .slice E4 m4 e4]) (dSpoil u0.disk 0 2 1) := d4.kept (by rw [← hwn]; (repeat (with_reducible (first | assumption | exact Kept.refl _ _ _ | (apply Kept.setK; rotate_left; (repeat (first | assumption | apply Kd.set | apply Kd.alloc | apply Kd.drew)); decide; omega) | refine Kept.allocK ?_ _ | refine Kept.drewK ?_))))
 have i2 : Row eEnt tS w5 0 (.slice F k f) u0.index := i2.kept (by rw [← hwn]; (repeat (with_reducible (first | assumption | exact Kept.refl _ _ _ | (apply Kept.setK; rotate_left; (repeat (first | assumption | apply Kd.set | apply Kd.alloc | apply Kd.drew)); decide; omega) | refine Kept.allocK ?_ _ | refine Kept.drewK ?_))))
 have hx : Ext w w5 := by rw [← hwn]; (repeat (with_reducible (first | assumption | exact Below.refl _ _ | refine Below.setCell ?_ (by simp <;> omega) _ | refine Below.alloc ?_ (by simp <;> omega) _ | refine Below.drew ?_ | refine below_drewN ?_ _)))
 have b1 : Box w5 g1 100 #[.slice A4 n4 c4, .slice E4 m4 e4, .slice F k f, .int .i64 u0.next] := by rw [← hwn]; exact (b1.set 0 _).set 1 _
 clear hwn kb
 have s5 : StoV tS w5 0 (.agg #[.slice A4 n4 c4, .slice E4 m4 e4, .slice F k f, .int .i64 u0.next]) u1 := StoV.mk d4 i2 rfl
 clear d4 i2
 obtain ⟨b1_0, b1_1, b1_2, b1_3⟩ := b1.c4
 have b1_z := b1.free
 have b1_l := b1.lt
 go_wp2_with fail
 refine (scOne_v s5 u1_good).mono ?_
 rintro e6 w6 ⟨v6, rfl, s6, he⟩
 try clear b1_0 b1_1 b1_2 b1_3 b1_z b1_l
 have hx := ext_trans hx he
 have s5 := s5.ext he
 have b1 := b1.ext he
 clear he
 rw [u1_how]
 obtain ⟨A6, n6, c6, E6, m6, e6, F6, k6, f6, rfl, _, _, _, _, HK6, _, _, _⟩ := s6.form
 obtain rfl : k6 = 1 := HK6.out.trans u1_len
 clear HK6 s6
 rw [u1_next]
 go_upto_region 4 with (fail)
 generalize hwn : World.alloc w6 _ = w7
 have he : Ext w6 w7 := by rw [← hwn]; exact ext_alloc _ _
 have b4 : Box w7 w6.heap.size 100 #[.slice A6 n6 c6, .slice E6 m6 e6, .slice F6 1 f6, .int .i64 1] := by rw [← hwn]; exact Box.new _ _ _ (by simp)
 clear hwn
 have hx := ext_trans hx he
 have s5 := s5.ext he
 have b1 := b1.ext he
 clear he
 obtain ⟨b1_0, b1_1, b1_2, b1_3⟩ := b1.c4
 have b1_z := b1.free
 have b1_l := b1.lt
 go_wp2_with fail
 refine (scAll_v (Nat.zero_le _) s5 u1_good).mono ?_
 rintro e8 w8 ⟨v8, rfl, s8, he⟩
 try clear b1_0 b1_1 b1_2 b1_3 b1_z b1_l
 have hx := ext_trans hx he
 have b1 := b1.ext he
 have b4 := b4.ext he
 clear he
 clear s5 b1
 rw [u1_all, u1_rep]
 obtain ⟨A8, n8, c8, E8, m8, e8, F8, k8, f8, rfl, d8, _, _, _, _, _, _, _⟩ := s8.form
 clear s8
 rw [u1_next6]
 go_upto_region 5 with (fail)
 generalize hwn : World.alloc (World.alloc w8 _) _ = w9
 have he : Ext w8 w9 := by rw [← hwn]; exact (ext_alloc _ _).alloc (by simp) _
 have b6 : Box w9 w8.heap.size 100 #[.slice A8 n8 c8, .slice E8 m8 e8, .slice F8 k8 f8, .int .i64 0] := by rw [← hwn]; exact (Box.new _ _ _ (by simp)).alloc _
 have b7 : Box w9 (w8.heap.size + 1) 89 #[.int .i64 5, .int .i64 0, .int .i64 1, .int .i64 0, .int .i64 0, .int .i64 0] := by rw [← hwn]; exact Box.new _ _ _ (by simp)
 clear hwn
 have hx := ext_trans hx he
 have d8 := d8.ext he
 have b4 := b4.ext he
 clear he
 obtain ⟨b4_0, b4_1, b4_2, b4_3⟩ := b4.c4
 have b4_z := b4.free
 have b4_l := b4.lt
 obtain ⟨b6_0, b6_1, b6_2, b6_3⟩ := b6.c4
 have b6_z := b6.free
 have b6_l := b6.lt
 obtain ⟨b7_0, b7_1, b7_2, b7_3, b7_4, b7_5⟩ := b7.c6
 have b7_z := b7.free
 have b7_l := b7.lt
 go_wp2_with fail
 refine (scLook_v d8 (good_fine (scTo_sGood u1_good 6).disk).ok).mono ?_
 rintro e10 w10 ⟨rfl, he⟩
 try clear b4_0 b4_1 b4_2 b4_3 b4_z b4_l b6_0 b6_1 b6_2 b6_3 b6_z b6_l b7_0 b7_1 b7_2 b7_3 b7_4 b7_5 b7_z b7_l
 have hx := ext_trans hx he
 have b4 := b4.ext he
 have b6 := b6.ext he
 have b7 := b7.ext he
 clear he
 rw [u1_look, u1_rep1]
 have hfd : ∀ w : World, (Instr.field 89 (.agg #[.int .i64 5, .int .i64 1, .int .i64 0, .int .i64 0, .int .i64 0, .int .i64 0]) 0).run Try.prog w = .ok (.agg #[.int .i64 5, .int .i64 1, .int .i64 0, .int .i64 0, .int .i64 0, .int .i64 0]) w := fun _ => by kernel_rfl
 have hix : ∀ w : World, (Instr.index 87 (.agg #[.int .i64 5, .int .i64 1, .int .i64 0, .int .i64 0, .int .i64 0, .int .i64 0]) (.int .i64 1)).run Try.prog w = .ok (.int .i64 1) w := fun _ => by kernel_rfl
 go_wp2_with fail
 go_ret
 exact ⟨rfl, hx⟩
end Go.Proofs.Ytpidjkadpnjahaa
