/- Walks: scref6.Gentle, may.Gentle, scref6.PlayGently. -/
import Derived.Test.YtmcgbdbhpnplmaaGreatSc8
import Derived.Test.YtmcgbdbhpnplmaaGreatG5
namespace Go.Proofs.YtmcgbdbhpnplmaaGreat
open Go Go.RowKit
theorem gentle_eq {s : Sto} (g : sGood s) (x : Stp) : gentle s x = if x.kind ≠ 3 ∨ x.n < 0 ∨ 192 ≤ x.n then true else decide ((pLook s.disk (x.n / 32)).1 < 2) := by
 unfold gentle
 rw [g.disk.len]
 rfl
set_option maxRecDepth 100000 in
set_option maxHeartbeats 4000000 in
theorem refGentle_v {T : List TypeId} {base base' : Nat} {v xv : Value} {s : Sto} {x : Stp} {w : World} (h : StoV T w base v s) (g : sGood s) (hs : StpV w base' xv x) :
  Calls Tryz.prog 41 #[v, xv] w fun e w' => e = .returned (.bool (gentle s x)) ∧ Ext w w' := by
 obtain ⟨A, n, c, E, m, e, F, k, f, rfl, hdk, _, HN, _, _, _, _, _⟩ := h.form
 obtain ⟨A0, n0, c0, rfl, _, _⟩ := hs.at_
 have HG := Lib.hid (gentle_eq g x)
 obtain rfl : n = 12 := HN.out.trans g.disk.len
 have HFD := Lib.hid (good_fine g.disk)
 clear g HN h hs
 go_enter Tryz.func41, Tryz.ntmps41
 go_upto_region 1 with (fail)
 generalize hwn : World.alloc (World.alloc w _) _ = w1
 have hx : Ext w w1 := by rw [← hwn]; (repeat (with_reducible (first | assumption | exact Below.refl _ _ | refine Below.setCell ?_ (by simp <;> omega) _ | refine Below.alloc ?_ (by simp <;> omega) _ | refine Below.drew ?_ | refine below_drewN ?_ _)))
 have b2 : Box w1 w.heap.size 33 #[.slice A 12 c, .slice E m e, .slice F k f, .int .i64 s.next] := by rw [← hwn]; exact (Box.new _ _ _ rfl).alloc _
 have b3 : Box w1 (w.heap.size + 1) 67 #[.int .i64 x.kind, .int .i64 x.n, .int .i64 x.m, .int .i64 x.deed.kind, .int .i64 x.deed.key, .int .i64 x.deed.n, .slice A0 n0 c0] := by rw [← hwn]; exact Box.new _ _ _ (by simp)
 clear hwn
 have hdk := hdk.ext hx
 have hw192 : IntKind.wrap .i64 192 = 192 := rfl
 by_cases k3 : x.kind = 3
 case neg =>
  have HG := Lib.hid (HG.out.trans (if_pos (.inl k3)))
  have q1 : (x.kind != 3) = true := by simpa using k3
  clear k3
  obtain ⟨b2_0, b2_1, b2_2, b2_3⟩ := b2.c4
  have b2_z := b2.free
  have b2_l := b2.lt
  obtain ⟨b3_0, b3_1, b3_2, b3_3, b3_4, b3_5, b3_6⟩ := b3.c7
  have b3_z := b3.free
  have b3_l := b3.lt
  go_wp2_with fail
  try clear b2_0 b2_1 b2_2 b2_3 b2_z b2_l b3_0 b3_1 b3_2 b3_3 b3_4 b3_5 b3_6 b3_z b3_l
  go_ret
  exact ⟨by rw [HG.out]; rfl, hx⟩
 have q1 : (x.kind != 3) = false := by simpa using k3
 by_cases hn : x.n < 0
 case pos =>
  have HG := Lib.hid (HG.out.trans (if_pos (.inr (.inl hn))))
  have qn : decide (x.n < 0) = true := by simpa using hn
  clear k3 hn
  obtain ⟨b2_0, b2_1, b2_2, b2_3⟩ := b2.c4
  have b2_z := b2.free
  have b2_l := b2.lt
  obtain ⟨b3_0, b3_1, b3_2, b3_3, b3_4, b3_5, b3_6⟩ := b3.c7
  have b3_z := b3.free
  have b3_l := b3.lt
  go_wp2_with fail
  try clear b2_0 b2_1 b2_2 b2_3 b2_z b2_l b3_0 b3_1 b3_2 b3_3 b3_4 b3_5 b3_6 b3_z b3_l
  go_ret
  exact ⟨by rw [HG.out]; rfl, hx⟩
 have qn : decide (x.n < 0) = false := by simpa using hn
 by_cases hm : 192 ≤ x.n
 case pos =>
  have HG := Lib.hid (HG.out.trans (if_pos (.inr (.inr hm))))
  have qm : decide (192 ≤ x.n) = true := by simpa using hm
  clear k3 hn hm
  obtain ⟨b2_0, b2_1, b2_2, b2_3⟩ := b2.c4
  have b2_z := b2.free
  have b2_l := b2.lt
  obtain ⟨b3_0, b3_1, b3_2, b3_3, b3_4, b3_5, b3_6⟩ := b3.c7
  have b3_z := b3.free
  have b3_l := b3.lt
  go_wp2_with fail
  try clear b2_0 b2_1 b2_2 b2_3 b2_z b2_l b3_0 b3_1 b3_2 b3_3 b3_4 b3_5 b3_6 b3_z b3_l
  go_ret
  exact ⟨by rw [HG.out]; rfl, hx⟩
 have qm : decide (192 ≤ x.n) = false := by simpa using hm
 have HG := Lib.hid (HG.out.trans (if_neg (by omega)))
 have hn0 : 0 ≤ x.n := by omega
 have hm0 : x.n < 192 := by omega
 clear k3 hn hm
 have h1 : Int.tdiv x.n 32 = x.n / 32 := Int.tdiv_eq_ediv_of_nonneg hn0
 obtain ⟨b2_0, b2_1, b2_2, b2_3⟩ := b2.c4
 have b2_z := b2.free
 have b2_l := b2.lt
 obtain ⟨b3_0, b3_1, b3_2, b3_3, b3_4, b3_5, b3_6⟩ := b3.c7
 have b3_z := b3.free
 have b3_l := b3.lt
 go_wp2_with fail
 refine (refLook_v (p := x.n / 32) hdk HFD.out.ok).mono ?_
 rintro e2 w2 ⟨rv, rfl, hr, he⟩
 try clear b2_0 b2_1 b2_2 b2_3 b2_z b2_l b3_0 b3_1 b3_2 b3_3 b3_4 b3_5 b3_6 b3_z b3_l
 have hx := ext_trans hx he
 have b2 := b2.ext he
 have b3 := b3.ext he
 clear he
 obtain ⟨A2, n2, c2, rfl, _, _⟩ := hr.at_
 clear hr hdk h1
 generalize (pLook s.disk (x.n / 32)).1 = y at HG ⊢
 go_wp2_with fail
 go_ret
 exact ⟨by rw [HG.out]; rfl, hx.alloc hx.size _⟩
set_option maxRecDepth 100000 in
set_option maxHeartbeats 4000000 in
theorem mayGentle_v {T : List TypeId} {base base' : Nat} {v xv : Value} {s : Sto} {x : Stp} {w : World} (h : StoV T w base v s) (g : sGood s) (hs : StpV w base' xv x) :
  Calls Tryz.prog 45 #[v, xv] w fun e w' => e = .returned (.bool (gentle s x)) ∧ Ext w w' := by
 obtain ⟨A, n, c, E, m, e, F, k, f, rfl, hdk, _, HN, _, _, _, _, _⟩ := h.form
 obtain ⟨A0, n0, c0, rfl, _, _⟩ := hs.at_
 have HG := Lib.hid (gentle_eq g x)
 obtain rfl : n = 12 := HN.out.trans g.disk.len
 have HFD := Lib.hid (good_fine g.disk)
 clear g HN h hs
 go_enter Tryz.func45, Tryz.ntmps45
 go_upto_region 1 with (fail)
 generalize hwn : World.alloc (World.alloc w _) _ = w1
 have hx : Ext w w1 := by rw [← hwn]; (repeat (with_reducible (first | assumption | exact Below.refl _ _ | refine Below.setCell ?_ (by simp <;> omega) _ | refine Below.alloc ?_ (by simp <;> omega) _ | refine Below.drew ?_ | refine below_drewN ?_ _)))
 have b2 : Box w1 w.heap.size 33 #[.slice A 12 c, .slice E m e, .slice F k f, .int .i64 s.next] := by rw [← hwn]; exact (Box.new _ _ _ rfl).alloc _
 have b3 : Box w1 (w.heap.size + 1) 67 #[.int .i64 x.kind, .int .i64 x.n, .int .i64 x.m, .int .i64 x.deed.kind, .int .i64 x.deed.key, .int .i64 x.deed.n, .slice A0 n0 c0] := by rw [← hwn]; exact Box.new _ _ _ (by simp)
 clear hwn
 have hdk := hdk.ext hx
 have hw192 : IntKind.wrap .i64 192 = 192 := rfl
 by_cases k3 : x.kind = 3
 case neg =>
  have HG := Lib.hid (HG.out.trans (if_pos (.inl k3)))
  have q1 : (x.kind != 3) = true := by simpa using k3
  clear k3
  obtain ⟨b2_0, b2_1, b2_2, b2_3⟩ := b2.c4
  have b2_z := b2.free
  have b2_l := b2.lt
  obtain ⟨b3_0, b3_1, b3_2, b3_3, b3_4, b3_5, b3_6⟩ := b3.c7
  have b3_z := b3.free
  have b3_l := b3.lt
  go_wp2_with fail
  try clear b2_0 b2_1 b2_2 b2_3 b2_z b2_l b3_0 b3_1 b3_2 b3_3 b3_4 b3_5 b3_6 b3_z b3_l
  go_ret
  exact ⟨by rw [HG.out]; rfl, hx⟩
 have q1 : (x.kind != 3) = false := by simpa using k3
 by_cases hn : x.n < 0
 case pos =>
  have HG := Lib.hid (HG.out.trans (if_pos (.inr (.inl hn))))
  have qn : decide (x.n < 0) = true := by simpa using hn
  clear k3 hn
  obtain ⟨b2_0, b2_1, b2_2, b2_3⟩ := b2.c4
  have b2_z := b2.free
  have b2_l := b2.lt
  obtain ⟨b3_0, b3_1, b3_2, b3_3, b3_4, b3_5, b3_6⟩ := b3.c7
  have b3_z := b3.free
  have b3_l := b3.lt
  go_wp2_with fail
  try clear b2_0 b2_1 b2_2 b2_3 b2_z b2_l b3_0 b3_1 b3_2 b3_3 b3_4 b3_5 b3_6 b3_z b3_l
  go_ret
  exact ⟨by rw [HG.out]; rfl, hx⟩
 have qn : decide (x.n < 0) = false := by simpa using hn
 by_cases hm : 192 ≤ x.n
 case pos =>
  have HG := Lib.hid (HG.out.trans (if_pos (.inr (.inr hm))))
  have qm : decide (192 ≤ x.n) = true := by simpa using hm
  clear k3 hn hm
  obtain ⟨b2_0, b2_1, b2_2, b2_3⟩ := b2.c4
  have b2_z := b2.free
  have b2_l := b2.lt
  obtain ⟨b3_0, b3_1, b3_2, b3_3, b3_4, b3_5, b3_6⟩ := b3.c7
  have b3_z := b3.free
  have b3_l := b3.lt
  go_wp2_with fail
  try clear b2_0 b2_1 b2_2 b2_3 b2_z b2_l b3_0 b3_1 b3_2 b3_3 b3_4 b3_5 b3_6 b3_z b3_l
  go_ret
  exact ⟨by rw [HG.out]; rfl, hx⟩
 have qm : decide (192 ≤ x.n) = false := by simpa using hm
 have HG := Lib.hid (HG.out.trans (if_neg (by omega)))
 have hn0 : 0 ≤ x.n := by omega
 have hm0 : x.n < 192 := by omega
 clear k3 hn hm
 have h1 : Int.tdiv x.n 16 = x.n / 16 := Int.tdiv_eq_ediv_of_nonneg hn0
 have h2 : Int.tdiv (x.n / 16) 2 = x.n / 32 := by rw [Int.tdiv_eq_ediv_of_nonneg (by omega)]; omega
 obtain ⟨b2_0, b2_1, b2_2, b2_3⟩ := b2.c4
 have b2_z := b2.free
 have b2_l := b2.lt
 obtain ⟨b3_0, b3_1, b3_2, b3_3, b3_4, b3_5, b3_6⟩ := b3.c7
 have b3_z := b3.free
 have b3_l := b3.lt
 go_wp2_with fail
 refine (look_v (p := x.n / 32) hdk HFD.out.ok).mono ?_
 rintro e2 w2 ⟨rv, rfl, hr, he⟩
 try clear b2_0 b2_1 b2_2 b2_3 b2_z b2_l b3_0 b3_1 b3_2 b3_3 b3_4 b3_5 b3_6 b3_z b3_l
 have hx := ext_trans hx he
 have b2 := b2.ext he
 have b3 := b3.ext he
 clear he
 obtain ⟨A2, n2, c2, rfl, _, _⟩ := hr.at_
 have HP := Lib.hid (look_how s.disk (x.n / 32))
 clear hr hdk h1 h2
 generalize (pLook s.disk (x.n / 32)).1 = y at HG HP ⊢
 by_cases y0 : y = 0
 ·have q0 : (y == 0) = true := by simpa using y0
  have HG := Lib.hid (HG.out.trans (decide_eq_true (by omega : y < 2)))
  clear y0
  go_wp2_with fail
  go_ret
  exact ⟨by rw [HG.out]; rfl, hx.alloc hx.size _⟩
 ·have q0 : (y == 0) = false := by simpa using y0
  by_cases y1 : y = 1
  ·have q2 : (y == 1) = true := by simpa using y1
   have HG := Lib.hid (HG.out.trans (decide_eq_true (by omega : y < 2)))
   clear y0 y1
   go_wp2_with fail
   go_ret
   exact ⟨by rw [HG.out]; rfl, hx.alloc hx.size _⟩
  ·have q2 : (y == 1) = false := by simpa using y1
   have HG := Lib.hid (HG.out.trans (decide_eq_false (by obtain ⟨h, e, _⟩ := HP.out; omega : ¬ y < 2)))
   clear y0 y1
   go_wp2_with fail
   go_ret
   exact ⟨by rw [HG.out]; rfl, hx.alloc hx.size _⟩
theorem drop_take {l : List Stp} {a : Nat} (ha : a < l.length) (h : a < 100) : (l.take 100).drop a = l.getD a eStp.d :: (l.take 100).drop (a + 1) := by
 rw [List.drop_eq_getElem_cons (by rw [List.length_take]; omega), List.getElem_take, List.getD_eq_getElem?_getD, List.getElem?_eq_getElem ha]
 rfl
theorem drop_end {l : List Stp} {a : Nat} (h : l.length ≤ a ∨ 100 ≤ a) : (l.take 100).drop a = [] := by
 apply List.drop_eq_nil_of_le
 rw [List.length_take]
 omega
set_option maxRecDepth 100000 in
set_option maxHeartbeats 4000000 in
theorem refGently_v {T : List TypeId} {base : Nat} {v : Value} {l : List Stp} {w : World} (h : Row eStp T w base v l) :
  Calls Tryz.prog 32 #[v] w fun e w' => ∃ v', e = .returned v' ∧ StoV tS w' w.heap.size v' (gTo sNew (l.take 100)) ∧ Ext w w' := by
 have hl := h.all (T' := [])
 clear h
 obtain ⟨A, n, c, rfl, hc, hcm, HN⟩ := hl.form
 unfold maxLen at hcm
 go_enter Tryz.func32, Tryz.ntmps32
 go_upto_region 1 with (fail)
 generalize hwn : World.alloc w _ = w1
 have hx : Ext w w1 := by rw [← hwn]; exact ext_alloc _ _
 have b2 : Box w1 w.heap.size 33 #[.slice none 0 0, .slice none 0 0, .slice none 0 0, .int .i64 0] := by rw [← hwn]; exact Box.new _ _ _ rfl
 clear hwn
 obtain ⟨g2, hg2⟩ : ∃ g, g = w.heap.size := ⟨_, rfl⟩
 have l2 : w.heap.size ≤ g2 := by omega
 rw [show Box w1 w.heap.size 33 #[.slice none 0 0, .slice none 0 0, .slice none 0 0, .int .i64 0] ↔ Box w1 g2 33 #[.slice none 0 0, .slice none 0 0, .slice none 0 0, .int .i64 0] by rw [hg2]] at b2
 rw [← hg2]
 clear hg2
 go_wp2_with fail
 refine (refStoNew_v _).mono ?_
 rintro e2 w2 ⟨v2, rfl, s2, he⟩
 have hx := ext_trans hx he
 have b2 := b2.ext he
 clear he
 obtain ⟨A2, n2, c2, E2, m2, e2, F2, k2, f2, rfl, _, _, _, _, _, _, _, _⟩ := s2.form
 go_upto_region 2 with (fail)
 generalize hwn : World.alloc w2 _ = w3
 have he : Ext w2 w3 := by rw [← hwn]; exact ext_alloc _ _
 have b3 : Box w3 w2.heap.size 33 #[.slice A2 n2 c2, .slice E2 m2 e2, .slice F2 k2 f2, .int .i64 sNew.next] := by rw [← hwn]; exact Box.new _ _ _ (by simp)
 clear hwn
 have l3 := b2.lt
 have hx := ext_trans hx he
 have b2 := b2.ext he
 have s2 := s2.ext he
 clear he
 obtain ⟨g3, hg3⟩ : ∃ g, g = w2.heap.size := ⟨_, rfl⟩
 rw [← hg3] at b3 l3 ⊢
 clear hg3
 have s3 := s2.sub (T' := tS) (base' := w.heap.size) (List.Subset.refl _) (Nat.zero_le _)
 clear s2
 go_upto_region 3 with (fail)
 go_loopw [9] (fun i wr => ∃ a : Nat, a ≤ n ∧ Hid (a ≤ 100) ∧ i = .int .i64 a ∧ (∃ A n c E m e F k f y, Hid (gTo sNew (l.take 100) = gTo y ((l.take 100).drop a)) ∧ sGood y ∧ Box wr g3 33 #[.slice A n c, .slice E m e, .slice F k f, .int .i64 y.next] ∧ StoV tS wr w.heap.size (.agg #[.slice A n c, .slice E m e, .slice F k f, .int .i64 y.next]) y) ∧ Box wr g2 33 #[.slice none 0 0, .slice none 0 0, .slice none 0 0, .int .i64 0] ∧ Ext w wr) (fun i _ => n - (intOf i).toNat)
 case atStart => exact ⟨0, by omega, Lib.hid (by omega), rfl, ⟨_, _, _, _, _, _, _, _, _, _, Lib.hid rfl, new_good, b3, s3⟩, b2, hx⟩
 case round =>
  clear hx b2 b3 s3
  obtain ⟨a, ha, HLT, rfl, ⟨A3, n3, c3, E3, m3, e3, F3, k3, f3, y, HY, hgy, b3, s3⟩, b2, hx⟩ := hrel
  have hz := hx.size
  have l3z := b3.lt
  have HG := Lib.hid hgy
  clear hgy
  by_cases hlt : a < n
  ·have i0 : (0 : Int) ≤ (a : Int) := by omega
   have i1 : (a : Int) < (n : Int) := by omega
   have hal : a < l.length := HN.out ▸ hlt
   obtain ⟨g1, o1, u1, rfl, hg1, hu1, f1⟩ := hl.stp_x hlt
   have HDT := Lib.hid (drop_take hal)
   have HDE := Lib.hid (fun h => drop_end (l := l) (a := a) (.inr h))
   generalize l.getD a eStp.d = x at f1 hu1 HDT
   obtain ⟨AX, nx, cx, rfl, _, _⟩ := hu1.form
   obtain ⟨x0, x1, x2, x3, x4, x5, x6⟩ := f1 _ hx
   have hu1 := hu1.ext hx
   clear f1 hg1 hal
   go_upto_region 5 with (fail)
   generalize hwn : World.alloc wr _ = w4
   have he : Ext wr w4 := by rw [← hwn]; exact ext_alloc _ _
   have b5 : Box w4 wr.heap.size 67 #[.int .i64 x.kind, .int .i64 x.n, .int .i64 x.m, .int .i64 x.deed.kind, .int .i64 x.deed.key, .int .i64 x.deed.n, .slice AX nx cx] := by rw [← hwn]; exact Box.new _ _ _ (by simp)
   clear hwn x0 x1 x2 x3 x4 x5 x6
   have hx := ext_trans hx he
   have s3 := s3.ext he
   have b3 := b3.ext he
   have b2 := b2.ext he
   have hu1 := hu1.ext he
   clear he
   obtain ⟨g5, hg5⟩ : ∃ g, g = wr.heap.size := ⟨_, rfl⟩
   rw [← hg5] at b5 ⊢
   clear hg5
   by_cases hq : 100 ≤ a
   ·have HFIN := Lib.hid (HY.out.trans (by rw [HDE.out hq]; rfl : gTo y ((l.take 100).drop a) = y))
    by_cases hq2 : a = 100
    ·have qa : ((a : Int) == 100) = true := by rw [beq_iff_eq]; omega
     clear hq hq2 HY HDT HDE
     have kb := b2.kd
     obtain ⟨b2_0, b2_1, b2_2, b2_3⟩ := b2.c4
     have b2_z := b2.free
     have b2_l := b2.lt
     obtain ⟨b3_0, b3_1, b3_2, b3_3⟩ := b3.c4
     have b3_z := b3.free
     have b3_l := b3.lt
     go_wp2_with fail
     ((try simp only [Exit.inBlock, Exit.then]); refine bodyPost_ret (v := ?_) ?resultOf rfl ?_; case resultOf => (rw [results_cell1 rfl]; go_simp; rfl))
     try clear b2_0 b2_1 b2_2 b2_3 b2_z b2_l b3_0 b3_1 b3_2 b3_3 b3_z b3_l
     refine ⟨_, rfl, ?_, by (repeat (with_reducible (first | assumption | exact Below.refl _ _ | refine Below.setCell ?_ (by simp <;> omega) _ | refine Below.alloc ?_ (by simp <;> omega) _ | refine Below.drew ?_ | refine below_drewN ?_ _)))⟩
     rw [HFIN.out]
     exact s3.kept (by (repeat (with_reducible (first | assumption | exact Kept.refl _ _ _ | (apply Kept.setK; rotate_left; (repeat (first | assumption | apply Kd.set | apply Kd.alloc | apply Kd.drew)); decide; omega) | refine Kept.allocK ?_ _ | refine Kept.drewK ?_))))
    ·exact absurd hq2 (by have := HLT.out; omega)
   ·have qa : ((a : Int) == 100) = false := by rw [beq_eq_false_iff_ne]; omega
    have HL1 := Lib.hid (show a + 1 ≤ 100 by omega)
    have HY := Lib.hid (HY.out.trans (by rw [HDT.out (by omega)]; rfl : _ = if gentle y x = true then gTo (yDo y x).1 ((l.take 100).drop (a + 1)) else y))
    clear hq HDT HDE
    obtain ⟨b3_0, b3_1, b3_2, b3_3⟩ := b3.c4
    have b3_z := b3.free
    have b3_l := b3.lt
    obtain ⟨b5_0, b5_1, b5_2, b5_3, b5_4, b5_5, b5_6⟩ := b5.c7
    have b5_z := b5.free
    have b5_l := b5.lt
    go_wp2_with fail
    refine (refGentle_v s3 HG.out ⟨_, rfl, hu1⟩).mono ?_
    rintro e5 w5 ⟨rfl, he⟩
    try clear b3_0 b3_1 b3_2 b3_3 b3_z b3_l b5_0 b5_1 b5_2 b5_3 b5_4 b5_5 b5_6 b5_z b5_l
    have hx := ext_trans hx he
    have s3 := s3.ext he
    have hu1 := hu1.ext he
    have b3 := b3.ext he
    have b5 := b5.ext he
    have b2 := b2.ext he
    clear he
    cases hgt : gentle y x with
    | false =>
     have HFIN := Lib.hid (HY.out.trans (if_neg (by rw [hgt]; simp)))
     clear hgt HY
     have kb := b2.kd
     obtain ⟨b2_0, b2_1, b2_2, b2_3⟩ := b2.c4
     have b2_z := b2.free
     have b2_l := b2.lt
     obtain ⟨b3_0, b3_1, b3_2, b3_3⟩ := b3.c4
     have b3_z := b3.free
     have b3_l := b3.lt
     go_wp2_with fail
     ((try simp only [Exit.inBlock, Exit.then]); refine bodyPost_ret (v := ?_) ?resultOf rfl ?_; case resultOf => (rw [results_cell1 rfl]; go_simp; rfl))
     try clear b2_0 b2_1 b2_2 b2_3 b2_z b2_l b3_0 b3_1 b3_2 b3_3 b3_z b3_l
     refine ⟨_, rfl, ?_, by (repeat (with_reducible (first | assumption | exact Below.refl _ _ | refine Below.setCell ?_ (by simp <;> omega) _ | refine Below.alloc ?_ (by simp <;> omega) _ | refine Below.drew ?_ | refine below_drewN ?_ _)))⟩
     rw [HFIN.out]
     exact s3.kept (by (repeat (with_reducible (first | assumption | exact Kept.refl _ _ _ | (apply Kept.setK; rotate_left; (repeat (first | assumption | apply Kd.set | apply Kd.alloc | apply Kd.drew)); decide; omega) | refine Kept.allocK ?_ _ | refine Kept.drewK ?_))))
    | true =>
     have HY := Lib.hid (HY.out.trans (if_pos hgt))
     clear hgt
     obtain ⟨b3_0, b3_1, b3_2, b3_3⟩ := b3.c4
     have b3_z := b3.free
     have b3_l := b3.lt
     obtain ⟨b5_0, b5_1, b5_2, b5_3, b5_4, b5_5, b5_6⟩ := b5.c7
     have b5_z := b5.free
     have b5_l := b5.lt
     go_wp2_with fail
     refine (refStep_v (x := x) (s := y) hx.size s3 HG.out ⟨_, rfl, hu1⟩).mono ?_
     rintro e6 w6 ⟨v6, rfl, s6, he⟩
     try clear b3_0 b3_1 b3_2 b3_3 b3_z b3_l b5_0 b5_1 b5_2 b5_3 b5_4 b5_5 b5_6 b5_z b5_l
     have hx := ext_trans hx he
     have b3 := b3.ext he
     have b5 := b5.ext he
     have b2 := b2.ext he
     clear he
     have HG := Lib.hid (step_good HG.out x)
     clear s3 hu1 b5
     obtain ⟨A6, n6, c6, E6, m6, e6, F6, k6, f6, rfl, _, _, _, _, _, _, _, _⟩ := s6.form
     have kb := b3.kd
     obtain ⟨b3_0, b3_1, b3_2, b3_3⟩ := b3.c4
     have b3_z := b3.free
     have b3_l := b3.lt
     go_upto_region 7 with (fail)
     try clear b3_0 b3_1 b3_2 b3_3 b3_z b3_l
     generalize hwn : World.setCell (World.setCell (World.setCell (World.setCell w6 _ _) _ _) _ _) _ _ = w7
     have b2 : Box w7 g2 33 #[.slice none 0 0, .slice none 0 0, .slice none 0 0, .int .i64 0] := by rw [← hwn]; (repeat (with_reducible (first | assumption | refine Box.alloc ?_ _ | refine Box.setOther ?_ (by simp <;> omega) _)))
     have s6 := s6.kept (w' := w7) (by rw [← hwn]; (repeat (with_reducible (first | assumption | exact Kept.refl _ _ _ | (apply Kept.setK; rotate_left; (repeat (first | assumption | apply Kd.set | apply Kd.alloc | apply Kd.drew)); decide; omega) | refine Kept.allocK ?_ _ | refine Kept.drewK ?_))))
     have hx : Ext w w7 := by rw [← hwn]; (repeat (with_reducible (first | assumption | exact Below.refl _ _ | refine Below.setCell ?_ (by simp <;> omega) _ | refine Below.alloc ?_ (by simp <;> omega) _ | refine Below.drew ?_ | refine below_drewN ?_ _)))
     have b3 : Box w7 g3 33 #[.slice A6 n6 c6, .slice E6 m6 e6, .slice F6 k6 f6, .int .i64 (yDo y x).1.next] := by rw [← hwn]; exact (((b3.set 0 _).set 1 _).set 2 _).set 3 _
     clear hwn kb
     go_wp2_with fail
     refine ⟨⟨a + 1, by omega, HL1, rfl, ⟨_, _, _, _, _, _, _, _, _, _, HY, HG.out, b3, s6⟩, b2, hx⟩, ?_⟩
     simp only [intOf]
     omega
  ·obtain rfl : a = n := by omega
   have HFIN := Lib.hid (HY.out.trans (by rw [drop_end (.inl (Nat.le_of_eq HN.out.symm))]; rfl : gTo y ((l.take 100).drop a) = y))
   clear HY
   have kb := b2.kd
   obtain ⟨b2_0, b2_1, b2_2, b2_3⟩ := b2.c4
   have b2_z := b2.free
   have b2_l := b2.lt
   obtain ⟨b3_0, b3_1, b3_2, b3_3⟩ := b3.c4
   have b3_z := b3.free
   have b3_l := b3.lt
   go_wp2_with fail
   ((try simp only [Exit.inBlock, Exit.then]); refine bodyPost_ret (v := ?_) ?resultOf rfl ?_; case resultOf => (rw [results_cell1 rfl]; go_simp; rfl))
   try clear b2_0 b2_1 b2_2 b2_3 b2_z b2_l b3_0 b3_1 b3_2 b3_3 b3_z b3_l
   refine ⟨_, rfl, ?_, by (repeat (with_reducible (first | assumption | exact Below.refl _ _ | refine Below.setCell ?_ (by simp <;> omega) _ | refine Below.alloc ?_ (by simp <;> omega) _ | refine Below.drew ?_ | refine below_drewN ?_ _)))⟩
   rw [HFIN.out]
   exact s3.kept (by (repeat (with_reducible (first | assumption | exact Kept.refl _ _ _ | (apply Kept.setK; rotate_left; (repeat (first | assumption | apply Kd.set | apply Kd.alloc | apply Kd.drew)); decide; omega) | refine Kept.allocK ?_ _ | refine Kept.drewK ?_))))
end Go.Proofs.YtmcgbdbhpnplmaaGreat
