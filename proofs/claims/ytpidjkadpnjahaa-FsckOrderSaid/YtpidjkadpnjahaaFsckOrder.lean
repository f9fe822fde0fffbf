/- The statement FsckOrder: the walk of the law. -/
import Derived.Test.YtpidjkadpnjahaaAlive10
import Derived.Test.YtpidjkadpnjahaaA4
namespace Go.Proofs.Ytpidjkadpnjahaa
open Go Go.RowKit
set_option maxRecDepth 100000 in
set_option maxHeartbeats 4000000 in
theorem fsckOrder_law (w : World) {v : Value} {d : Dsk} (h : DskV tD w w.heap.size v d) :
  Calls Try.prog 10 #[v] w fun e w' => e = .returned (.bool true) ∧ Ext w w' := by
 obtain ⟨A, n, c, E, m, e, rfl, _, _, _, _, _, _⟩ := h.form
 go_enter Try.func10, Try.ntmps10
 go_upto_region 1 with (fail)
 generalize hwn : World.alloc w _ = W
 have hx : Ext w W := by rw [← hwn]; exact ext_alloc _ _
 have b1 : Box W w.heap.size 42 #[.slice A n c, .slice E m e] := by rw [← hwn]; exact Box.new _ _ _ rfl
 clear hwn
 have h := h.ext hx
 go_wp2_with fail
 refine (alive10_w _).mono ?_
 rintro e0 w0 ⟨rfl, he⟩
 have hx := ext_trans hx he
 have h := h.ext he
 have b1 := b1.ext he
 clear he
 obtain ⟨b1_0, b1_1⟩ := b1.c2
 have b1_z := b1.free
 have b1_l := b1.lt
 go_wp2_with fail
 refine (rightDisk_v h).mono ?_
 rintro e1 w1 ⟨rfl, he⟩
 try clear b1_0 b1_1 b1_z b1_l
 have hx := ext_trans hx he
 have h := h.ext he
 have b1 := b1.ext he
 clear he
 cases hrd : dRight d with
 | false =>
  go_wp2_with fail
  go_ret
  exact ⟨rfl, hx⟩
 | true =>
  have HF := Lib.hid (dRight_fine hrd)
  have HE := Lib.hid (⟨(dRight_dEven hrd).1, (dRight_dEven hrd).2⟩ : dEven d)
  clear hrd
  obtain ⟨b1_0, b1_1⟩ := b1.c2
  have b1_z := b1.free
  have b1_l := b1.lt
  go_wp2_with fail
  refine (fClean_v h HF.out HE.out.len).mono ?_
  rintro e2 w2 ⟨v2, tw2, rfl, d2, r2, he⟩
  try clear b1_0 b1_1 b1_z b1_l
  have hx := ext_trans hx he
  have b1 := b1.ext he
  clear he
  have HS := Lib.hid (clean_sound HE.out)
  have HL := Lib.hid (clean_hows HE.out)
  generalize (fClean d).1 = x at d2 HS HL
  generalize (fClean d).2.1 = hw
  clear h b1 HF HE
  have HR := Lib.hid (good_right HS.out.2.2)
  have HX := Lib.hid (good_fine HS.out.2.2)
  obtain ⟨A2, n2, c2, E2, m2, e2, rfl, _, HM2, _, _, _, _⟩ := d2.form
  obtain rfl : m2 = 0 := HM2.out.trans (by rw [HS.out.2.2.late]; rfl)
  obtain ⟨A3, n3, c3, rfl, _, _, _⟩ := r2.form
  clear r2 HM2
  unfold repC
  go_upto_region 6 with (fail)
  generalize hwn : World.alloc (World.alloc w2 _) _ = w3
  have he : Ext w2 w3 := by rw [← hwn]; exact (ext_alloc _ _).alloc (by simp) _
  have b3 : Box w3 w2.heap.size 42 #[.slice A2 n2 c2, .slice E2 0 e2] := by rw [← hwn]; exact (Box.new _ _ _ (by simp)).alloc _
  clear hwn
  have hx := ext_trans hx he
  have d2 := d2.ext he
  clear he
  obtain ⟨b3_0, b3_1⟩ := b3.c2
  have b3_z := b3.free
  have b3_l := b3.lt
  go_wp2_with fail
  refine (rightDisk_v d2).mono ?_
  rintro e4 w4 ⟨rfl, he⟩
  try clear b3_0 b3_1 b3_z b3_l
  have hx := ext_trans hx he
  have d2 := d2.ext he
  have b3 := b3.ext he
  clear he
  rw [HR.out]
  obtain ⟨b3_0, b3_1⟩ := b3.c2
  have b3_z := b3.free
  have b3_l := b3.lt
  go_wp2_with fail
  refine (fSound_v d2 HX.out HS.out.2.2.len).mono ?_
  rintro e5 w5 ⟨rfl, he⟩
  try clear b3_0 b3_1 b3_z b3_l
  have hx := ext_trans hx he
  have d2 := d2.ext he
  have b3 := b3.ext he
  clear he
  rw [HS.out.1]
  obtain ⟨b3_0, b3_1⟩ := b3.c2
  have b3_z := b3.free
  have b3_l := b3.lt
  go_wp2_with fail
  refine (fTwice_v d2 HX.out.ok).mono ?_
  rintro e6 w6 ⟨v6, rfl, o6, he⟩
  try clear b3_0 b3_1 b3_z b3_l
  have hx := ext_trans hx he
  have d2 := d2.ext he
  have b3 := b3.ext he
  clear he
  rw [HS.out.2.1] at o6
  have r6 := o6.row (T := [3]) (base := 0) (by decide) (Nat.le_refl _)
  clear o6
  obtain ⟨A6, n6, c6, rfl, _, _, HN6⟩ := r6.form
  obtain rfl : n6 = 0 := HN6.out
  clear HN6 r6
  go_wp2_with fail
  go_loopw [40] (fun i wr => ∃ a : Nat, a ≤ 6 ∧ i = .int .i64 a ∧ Ext w6 wr) (fun i _ => 6 - (intOf i).toNat)
  case atStart => exact ⟨0, by omega, rfl, Below.refl _ _⟩
  case round =>
   obtain ⟨a, ha, rfl, hxd⟩ := hrel
   by_cases hlt : a < 6
   ·have e1 : (a : Int) < 6 := by omega
    have b3 := b3.ext hxd
    obtain ⟨b3_0, b3_1⟩ := b3.c2
    have b3_z := b3.free
    have b3_l := b3.lt
    go_wp2_with fail
    refine (refLook_v (p := (a : Int)) (d2.ext hxd) HX.out.ok).mono ?_
    rintro e7 w7 ⟨rv, rfl, hr, he⟩
    try clear b3_0 b3_1 b3_z b3_l
    have hxd := ext_trans hxd he
    have b3 := b3.ext he
    clear he
    have HH := HL.out a hlt
    obtain ⟨u7, rfl, hu7⟩ := hr
    obtain ⟨A7, n7, c7, rfl, _, _⟩ := hu7.form
    clear hu7
    rcases HH with hh | hh
    ·rw [hh]
     clear hh
     go_upto_region 12 with (fail)
     generalize hwn : World.alloc w7 _ = w8
     have he : Ext w7 w8 := by rw [← hwn]; exact ext_alloc _ _
     clear hwn
     have hxd := ext_trans hxd he
     clear he
     go_wp2_with fail
     refine ⟨⟨a + 1, by omega, rfl, hxd⟩, ?_⟩
     simp only [intOf]
     omega
    ·rw [hh]
     clear hh
     go_upto_region 12 with (fail)
     generalize hwn : World.alloc w7 _ = w8
     have he : Ext w7 w8 := by rw [← hwn]; exact ext_alloc _ _
     clear hwn
     have hxd := ext_trans hxd he
     clear he
     go_wp2_with fail
     refine ⟨⟨a + 1, by omega, rfl, hxd⟩, ?_⟩
     simp only [intOf]
     omega
   ·obtain rfl : a = 6 := by omega
    go_wp2_with fail
    go_ret
    exact ⟨rfl, ext_trans hx hxd⟩
end Go.Proofs.Ytpidjkadpnjahaa
