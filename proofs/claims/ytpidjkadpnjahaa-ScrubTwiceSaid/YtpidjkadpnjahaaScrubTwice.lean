/- The statement ScrubTwice: the walk of the law. -/
import Derived.Test.YtpidjkadpnjahaaAlive9
import Derived.Test.YtpidjkadpnjahaaSc8
namespace Go.Proofs.Ytpidjkadpnjahaa
open Go Go.RowKit
theorem rc_all {l : List Int} (h : ∀ x ∈ l, x = 0 ∨ x = 1) : rc l 0 + rc l 1 = (l.length : Int) := by
 have := cnt_all h
 rwa [cnt_getD l 0 (by omega), cnt_getD l 1 (by omega)] at this
set_option maxRecDepth 100000 in
set_option maxHeartbeats 4000000 in
theorem scrubTwice_law (w : World) {v : Value} {l : List Stp} (hl : Row eStp [] w w.heap.size v l) :
  Calls Try.prog 14 #[v] w fun e w' => e = .returned (.bool true) ∧ Ext w w' := by
 obtain ⟨A, n, c, rfl, _, _, _⟩ := hl.form
 have hx : Ext w w := Below.refl _ _
 go_enter Try.func14, Try.ntmps14
 go_wp2_with fail
 refine (alive9_w _).mono ?_
 rintro e0 w0 ⟨rfl, he⟩
 have hx := ext_trans hx he
 have hl := hl.ext he
 clear he
 have hxp : Ext w0 w0 := Below.refl _ _
 go_wp2_with fail
 refine (refPlay_v hl).mono ?_
 rintro e1 w1 ⟨v1, es, ns, rfl, s1, _, _, he⟩
 have hx := ext_trans hx he
 have hxp := ext_trans hxp he
 clear he
 clear hl
 have HG := Lib.hid (yPlay_good (l.take 100))
 generalize yPlay (l.take 100) = s at s1 HG
 obtain ⟨A3, n3, c3, E3, m3, e3, F3, k3, f3, rfl, _, _, _, _, _, _, _, _⟩ := s1.form
 go_upto_region 4 with (fail)
 generalize hwn : World.alloc w1 _ = w2
 have he : Ext w1 w2 := by rw [← hwn]; exact ext_alloc _ _
 have b3 : Box w2 w1.heap.size 100 #[.slice A3 n3 c3, .slice E3 m3 e3, .slice F3 k3 f3, .int .i64 s.next] := by rw [← hwn]; exact Box.new _ _ _ (by simp)
 clear hwn
 have hx := ext_trans hx he
 have hxp := ext_trans hxp he
 have s1 := s1.ext he
 clear he
 obtain ⟨b3_0, b3_1, b3_2, b3_3⟩ := b3.c4
 have b3_z := b3.free
 have b3_l := b3.lt
 go_wp2_with fail
 refine (scAll_v hxp.size s1 HG.out).mono ?_
 rintro e3 w3 ⟨v3, rfl, s3, he⟩
 try clear b3_0 b3_1 b3_2 b3_3 b3_z b3_l
 have hx := ext_trans hx he
 have hxp := ext_trans hxp he
 have b3 := b3.ext he
 clear he
 clear s1 b3
 have HT := Lib.hid (scTwice HG.out)
 have HG := Lib.hid (scTo_sGood HG.out 6)
 have HR := Lib.hid (rc_all HT.out.2.2)
 have HL := Lib.hid HT.out.2.1
 have HT := Lib.hid HT.out.1
 generalize (scTo s 6).2 = hs
 generalize (scTo s 6).1 = y at s3 HG HT HR HL
 obtain ⟨A6, n6, c6, E6, m6, e6, F6, k6, f6, rfl, _, _, _, _, _, _, _, _⟩ := s3.form
 unfold repC
 go_upto_region 5 with (fail)
 generalize hwn : World.alloc (World.alloc w3 _) _ = w4
 have he : Ext w3 w4 := by rw [← hwn]; exact (ext_alloc _ _).alloc (by simp) _
 have b6 : Box w4 w3.heap.size 100 #[.slice A6 n6 c6, .slice E6 m6 e6, .slice F6 k6 f6, .int .i64 y.next] := by rw [← hwn]; exact (Box.new _ _ _ (by simp)).alloc _
 clear hwn
 have hx := ext_trans hx he
 have hxp := ext_trans hxp he
 have s3 := s3.ext he
 clear he
 obtain ⟨b6_0, b6_1, b6_2, b6_3⟩ := b6.c4
 have b6_z := b6.free
 have b6_l := b6.lt
 go_wp2_with fail
 refine (scAll_v hxp.size s3 HG.out).mono ?_
 rintro e5 w5 ⟨v5, rfl, s5, he⟩
 try clear b6_0 b6_1 b6_2 b6_3 b6_z b6_l
 have hx := ext_trans hx he
 have s3 := s3.ext he
 have b6 := b6.ext he
 clear he
 rw [HT.out] at s5
 have HS : Hid (rc (scTo y 6).2 0 + rc (scTo y 6).2 1 = 6) := Lib.hid (by rw [HR.out, HL.out]; rfl)
 clear HR HL HT
 obtain ⟨A8, n8, c8, E8, m8, e8, F8, k8, f8, rfl, _, _, _, _, _, _, _, _⟩ := s5.form
 generalize hhs : (scTo y 6).2 = hs2 at HS ⊢
 clear hhs
 unfold repC
 go_upto_region 6 with (fail)
 generalize hwn : World.alloc (World.alloc w5 _) _ = w6
 have he : Ext w5 w6 := by rw [← hwn]; exact (ext_alloc _ _).alloc (by simp) _
 have b8 : Box w6 w5.heap.size 100 #[.slice A8 n8 c8, .slice E8 m8 e8, .slice F8 k8 f8, .int .i64 y.next] := by rw [← hwn]; exact (Box.new _ _ _ (by simp)).alloc _
 have b9 : Box w6 (w5.heap.size + 1) 89 (repC hs2) := by rw [← hwn]; exact Box.new _ _ _ (by simp)
 clear hwn
 have hx := ext_trans hx he
 have s3 := s3.ext he
 have s5 := s5.ext he
 have b6 := b6.ext he
 clear he
 have hwr : IntKind.wrap .i64 (rc hs2 0 + rc hs2 1) = 6 := by rw [HS.out]; rfl
 obtain ⟨b6_0, b6_1, b6_2, b6_3⟩ := b6.c4
 have b6_z := b6.free
 have b6_l := b6.lt
 obtain ⟨b8_0, b8_1, b8_2, b8_3⟩ := b8.c4
 have b8_z := b8.free
 have b8_l := b8.lt
 go_wp2_with fail
 refine (sameStore_v s3 s5).mono ?_
 rintro e7 w7 ⟨rfl, he⟩
 try clear b6_0 b6_1 b6_2 b6_3 b6_z b6_l b8_0 b8_1 b8_2 b8_3 b8_z b8_l
 have hx := ext_trans hx he
 have b6 := b6.ext he
 have b8 := b8.ext he
 have b9 := b9.ext he
 clear he
 obtain ⟨b9_0, b9_1, b9_2, b9_3, b9_4, b9_5⟩ := b9.c6
 have b9_z := b9.free
 have b9_l := b9.lt
 go_wp2_with fail
 go_ret
 exact ⟨rfl, hx⟩
end Go.Proofs.Ytpidjkadpnjahaa
