/- Walks: scref6.Gentle, may.Gentle, scref6.PlayGently. -/
import Derived.Test.YtdmnmfnmaccmoaaGreatDoorSc8
import Derived.Test.YtdmnmfnmaccmoaaGreatDoorG5
namespace Go.Proofs.YtdmnmfnmaccmoaaGreatDoor
open Go Go.RowKit
theorem gentle_eq {s : Sto} (g : sGood s) (x : Stp) : gentle s x = if x.kind ≠ 3 ∨ x.n < 0 ∨ 192 ≤ x.n then true else decide ((pLook s.disk (x.n / 32)).1 < 2) := by
 unfold gentle
 rw [g.disk.len]
 rfl
set_option maxRecDepth 100000 in
set_option maxHeartbeats 4000000 in
theorem mayGentle_v {T : List TypeId} {base base' : Nat} {v xv : Value} {s : Sto} {x : Stp} {w : World} (h : StoV T w base v s) (g : sGood s) (hs : StpV w base' xv x) :
  Calls Tryz.prog 28 #[v, xv] w fun e w' => e = .returned (.bool (gentle s x)) ∧ Ext w w' := by
 obtain ⟨A, n, c, E, m, e, F, k, f, rfl, hdk, _, HN, _, _, _, _, _⟩ := h.form
 obtain ⟨A0, n0, c0, rfl, _, _⟩ := hs.at_
 have HG := Lib.hid (gentle_eq g x)
 obtain rfl : n = 12 := HN.out.trans g.disk.len
 have HFD := Lib.hid (good_fine g.disk)
 clear g HN h hs
 go_enter Tryz.func28, Tryz.ntmps28
 go_upto_region 1 with (fail)
 generalize hwn : World.alloc (World.alloc w _) _ = w1
 have hx : Ext w w1 := by rw [← hwn]; (repeat (with_reducible (first | assumption | exact Below.refl _ _ | refine Below.setCell ?_ (by simp <;> omega) _ | refine Below.alloc ?_ (by simp <;> omega) _ | refine Below.drew ?_ | refine below_drewN ?_ _)))
 have b2 : Box w1 w.heap.size 30 #[.slice A 12 c, .slice E m e, .slice F k f, .int .i64 s.next] := by rw [← hwn]; exact (Box.new _ _ _ rfl).alloc _
 have b3 : Box w1 (w.heap.size + 1) 39 #[.int .i64 x.kind, .int .i64 x.n, .int .i64 x.m, .int .i64 x.deed.kind, .int .i64 x.deed.key, .int .i64 x.deed.n, .slice A0 n0 c0] := by rw [← hwn]; exact Box.new _ _ _ (by simp)
 clear hwn
 have hdk := hdk.ext hx
 have hw192 : IntKind.wrap .i64 192 = 192 := rfl
 by_cases k3 : x.kind = 3
 case neg =>
  have HG := Lib.hid (HG.out.trans (if_pos (.inl k3)))
  have q1 : (x.kind != 3) = true := by simpa using k3
  clear k3
  obtain ⟨b2_0, b2_1, b2_2, b2_3⟩ := b2.c4
  have b2_z := b2.free
  have b2_l := b2.lt
  obtain ⟨b3_0, b3_1, b3_2, b3_3, b3_4, b3_5, b3_6⟩ := b3.c7
  have b3_z := b3.free
  have b3_l := b3.lt
  go_wp2_with fail
  try clear b2_0 b2_1 b2_2 b2_3 b2_z b2_l b3_0 b3_1 b3_2 b3_3 b3_4 b3_5 b3_6 b3_z b3_l
  go_ret
  exact ⟨by rw [HG.out]; rfl, hx⟩
 have q1 : (x.kind != 3) = false := by simpa using k3
 by_cases hn : x.n < 0
 case pos =>
  have HG := Lib.hid (HG.out.trans (if_pos (.inr (.inl hn))))
  have qn : decide (x.n < 0) = true := by simpa using hn
  clear k3 hn
  obtain ⟨b2_0, b2_1, b2_2, b2_3⟩ := b2.c4
  have b2_z := b2.free
  have b2_l := b2.lt
  obtain ⟨b3_0, b3_1, b3_2, b3_3, b3_4, b3_5, b3_6⟩ := b3.c7
  have b3_z := b3.free
  have b3_l := b3.lt
  go_wp2_with fail
  try clear b2_0 b2_1 b2_2 b2_3 b2_z b2_l b3_0 b3_1 b3_2 b3_3 b3_4 b3_5 b3_6 b3_z b3_l
  go_ret
  exact ⟨by rw [HG.out]; rfl, hx⟩
 have qn : decide (x.n < 0) = false := by simpa using hn
 by_cases hm : 192 ≤ x.n
 case pos =>
  have HG := Lib.hid (HG.out.trans (if_pos (.inr (.inr hm))))
  have qm : decide (192 ≤ x.n) = true := by simpa using hm
  clear k3 hn hm
  obtain ⟨b2_0, b2_1, b2_2, b2_3⟩ := b2.c4
  have b2_z := b2.free
  have b2_l := b2.lt
  obtain ⟨b3_0, b3_1, b3_2, b3_3, b3_4, b3_5, b3_6⟩ := b3.c7
  have b3_z := b3.free
  have b3_l := b3.lt
  go_wp2_with fail
  try clear b2_0 b2_1 b2_2 b2_3 b2_z b2_l b3_0 b3_1 b3_2 b3_3 b3_4 b3_5 b3_6 b3_z b3_l
  go_ret
  exact ⟨by rw [HG.out]; rfl, hx⟩
 have qm : decide (192 ≤ x.n) = false := by simpa using hm
 have HG := Lib.hid (HG.out.trans (if_neg (by omega)))
 have hn0 : 0 ≤ x.n := by omega
 have hm0 : x.n < 192 := by omega
 clear k3 hn hm
 have h1 : Int.tdiv x.n 16 = x.n / 16 := Int.tdiv_eq_ediv_of_nonneg hn0
 have h2 : Int.tdiv (x.n / 16) 2 = x.n / 32 := by rw [Int.tdiv_eq_ediv_of_nonneg (by omega)]; omega
 obtain ⟨b2_0, b2_1, b2_2, b2_3⟩ := b2.c4
 have b2_z := b2.free
 have b2_l := b2.lt
 obtain ⟨b3_0, b3_1, b3_2, b3_3, b3_4, b3_5, b3_6⟩ := b3.c7
 have b3_z := b3.free
 have b3_l := b3.lt
 go_wp2_with fail
 refine (look_v (p := x.n / 32) hdk HFD.out.ok).mono ?_
 rintro e2 w2 ⟨rv, rfl, hr, he⟩
 try clear b2_0 b2_1 b2_2 b2_3 b2_z b2_l b3_0 b3_1 b3_2 b3_3 b3_4 b3_5 b3_6 b3_z b3_l
 have hx := ext_trans hx he
 have b2 := b2.ext he
 have b3 := b3.ext he
 clear he
 obtain ⟨A2, n2, c2, rfl, _, _⟩ := hr.at_
 have HP := Lib.hid (look_how s.disk (x.n / 32))
 clear hr hdk h1 h2
 generalize (pLook s.disk (x.n / 32)).1 = y at HG HP ⊢
 by_cases y0 : y = 0
 ·have q0 : (y == 0) = true := by simpa using y0
  have HG := Lib.hid (HG.out.trans (decide_eq_true (by omega : y < 2)))
  clear y0
  go_wp2_with fail
  go_ret
  exact ⟨by rw [HG.out]; rfl, hx.alloc hx.size _⟩
 ·have q0 : (y == 0) = false := by simpa using y0
  by_cases y1 : y = 1
  ·have q2 : (y == 1) = true := by simpa using y1
   have HG := Lib.hid (HG.out.trans (decide_eq_true (by omega : y < 2)))
   clear y0 y1
   go_wp2_with fail
   go_ret
   exact ⟨by rw [HG.out]; rfl, hx.alloc hx.size _⟩
  ·have q2 : (y == 1) = false := by simpa using y1
   have HG := Lib.hid (HG.out.trans (decide_eq_false (by obtain ⟨h, e, _⟩ := HP.out; omega : ¬ y < 2)))
   clear y0 y1
   go_wp2_with fail
   go_ret
   exact ⟨by rw [HG.out]; rfl, hx.alloc hx.size _⟩
theorem drop_take {l : List Stp} {a : Nat} (ha : a < l.length) (h : a < 100) : (l.take 100).drop a = l.getD a eStp.d :: (l.take 100).drop (a + 1) := by
 rw [List.drop_eq_getElem_cons (by rw [List.length_take]; omega), List.getElem_take, List.getD_eq_getElem?_getD, List.getElem?_eq_getElem ha]
 rfl
end Go.Proofs.YtdmnmfnmaccmoaaGreatDoor
