/- Walks: play.Do. -/
import Derived.Test.YtdmnmfnmaccmoaaGreatDoorSt3
import Derived.Test.YtdmnmfnmaccmoaaGreatDoorFs4
import Derived.Test.YtdmnmfnmaccmoaaGreatDoorSc7
namespace Go.Proofs.YtdmnmfnmaccmoaaGreatDoor
open Go Go.RowKit
set_option maxRecDepth 100000 in
set_option maxHeartbeats 4000000 in
theorem playDo_v {T : List TypeId} {base base' : Nat} {v xv : Value} {s : Sto} {x : Stp} {w : World} (h : StoV T w base v s) (g : sGood s) (hs : StpV w base' xv x) :
  Calls Tryz.prog 9 #[v, xv] w fun e w' => ∃ v', e = .returned (.tuple #[v', .int .i64 (yDo s x).2.1, .int .i64 (yDo s x).2.2]) ∧ StoV tS w' 0 v' (yDo s x).1 ∧ Ext w w' := by
 obtain ⟨A, n, c, E, m, e, F, k, f, rfl, hdk, _, HN, _, _, _, _, _⟩ := h.form
 obtain ⟨A0, n0, c0, rfl, _, _⟩ := hs.at_
 have hd := hs.deed
 clear hs
 have HG := Lib.hid g
 obtain rfl : n = 12 := HN.out.trans g.disk.len
 clear g HN
 have HF := Lib.hid HG.out.fine
 have HFD := Lib.hid (good_fine HG.out.disk)
 have HY := Lib.hid (show yDo s x = if x.kind = 1 then sDo s x.deed else if x.kind = 2 then (if (sBegin s x.deed).2.2 ≠ 0 then ((sBegin s x.deed).1, 0, (sBegin s x.deed).2.2) else (sMount (dKeep (sBegin s x.deed).1.disk x.n), (sBegin s x.deed).2.1, 0)) else if x.kind = 3 then (if x.n < 0 ∨ 16 * (s.disk.blocks.length : Int) ≤ x.n then (s, 0, 3) else (⟨dSpoil s.disk (x.n / 16) (x.n % 16) x.m, s.index, s.next⟩, 0, 0)) else if x.kind = 4 then ((scOne s).1, 0, 0) else if x.kind = 5 then (sMount (fClean s.disk).1, 0, 0) else if x.kind = 6 then (sMount s.disk, 0, 0) else (s, 0, 1) from rfl)
 go_enter Tryz.func9, Tryz.ntmps9
 go_upto_region 1 with (fail)
 generalize hwn : World.alloc (World.alloc (World.alloc w _) _) _ = w1
 have hx : Ext w w1 := by rw [← hwn]; (repeat (with_reducible (first | assumption | exact Below.refl _ _ | refine Below.setCell ?_ (by simp <;> omega) _ | refine Below.alloc ?_ (by simp <;> omega) _ | refine Below.drew ?_ | refine below_drewN ?_ _)))
 have b2 : Box w1 w.heap.size 30 #[.slice A 12 c, .slice E m e, .slice F k f, .int .i64 s.next] := by rw [← hwn]; exact ((Box.new _ _ _ rfl).alloc _).alloc _
 have b3 : Box w1 (w.heap.size + 1) 39 #[.int .i64 x.kind, .int .i64 x.n, .int .i64 x.m, .int .i64 x.deed.kind, .int .i64 x.deed.key, .int .i64 x.deed.n, .slice A0 n0 c0] := by rw [← hwn]; exact (Box.new _ _ _ (by simp)).alloc _
 have b4 : Box w1 (w.heap.size + 2) 30 #[.slice none 0 0, .slice none 0 0, .slice none 0 0, .int .i64 0] := by rw [← hwn]; exact Box.new _ _ _ (by simp)
 clear hwn
 obtain ⟨g4, hg4⟩ : ∃ g, g = w.heap.size + 2 := ⟨_, rfl⟩
 obtain ⟨g3, hg3⟩ : ∃ g, g = w.heap.size + 1 := ⟨_, rfl⟩
 obtain ⟨g2, hg2⟩ : ∃ g, g = w.heap.size := ⟨_, rfl⟩
 rw [← hg4] at b4 ⊢
 rw [← hg3] at b3 ⊢
 rw [← hg2]
 rw [show Box w1 w.heap.size 30 #[.slice A 12 c, .slice E m e, .slice F k f, .int .i64 s.next] ↔ Box w1 g2 30 #[.slice A 12 c, .slice E m e, .slice F k f, .int .i64 s.next] by rw [hg2]] at b2
 have l2 : w.heap.size ≤ g2 := by omega
 have l3 : g2 < g3 := by omega
 have l4 : g3 < g4 := by omega
 clear hg2 hg3 hg4
 have h := h.ext hx
 have hd := hd.ext hx
 have hdk := hdk.ext hx
 obtain ⟨b3_0, b3_1, b3_2, b3_3, b3_4, b3_5, b3_6⟩ := b3.c7
 have b3_z := b3.free
 have b3_l := b3.lt
 go_upto_region 2 with (fail)
 try clear b3_0 b3_1 b3_2 b3_3 b3_4 b3_5 b3_6 b3_z b3_l
 by_cases k1 : x.kind = 1
 ·have HD := Lib.hid (HY.out.trans (if_pos k1))
  have q1 : (x.kind == 1) = true := by simpa using k1
  clear k1 HY hdk
  obtain ⟨b2_0, b2_1, b2_2, b2_3⟩ := b2.c4
  have b2_z := b2.free
  have b2_l := b2.lt
  obtain ⟨b3_0, b3_1, b3_2, b3_3, b3_4, b3_5, b3_6⟩ := b3.c7
  have b3_z := b3.free
  have b3_l := b3.lt
  go_wp2_with fail
  refine (stoDo_v h HG.out hd).mono ?_
  rintro e1 w2 ⟨v2, rfl, s2, he⟩
  try clear b2_0 b2_1 b2_2 b2_3 b2_z b2_l b3_0 b3_1 b3_2 b3_3 b3_4 b3_5 b3_6 b3_z b3_l
  have hx := ext_trans hx he
  have b2 := b2.ext he
  have b3 := b3.ext he
  have b4 := b4.ext he
  clear he
  clear h hd
  obtain ⟨A2, n2, c2, E2, m2, e2, F2, k2, f2, rfl, d2, i2, _, _, _, _, _, _⟩ := s2.form
  clear s2
  have k4 := b4.kd
  obtain ⟨b4_0, b4_1, b4_2, b4_3⟩ := b4.c4
  have b4_z := b4.free
  have b4_l := b4.lt
  go_wp2_with fail
  ((try simp only [Exit.inBlock, Exit.then]); refine bodyPost_ret (v := ?_) ?resultOf rfl ?_; case resultOf => (rw [results_ctt rfl]; go_simp; rfl))
  try clear b4_0 b4_1 b4_2 b4_3 b4_z b4_l
  rw [HD.out]
  exact ⟨_, rfl, StoV.mk (d2.kept (by (repeat (with_reducible (first | assumption | exact Kept.refl _ _ _ | (apply Kept.setK; rotate_left; (repeat (first | assumption | apply Kd.set | apply Kd.alloc | apply Kd.drew)); decide; omega) | refine Kept.allocK ?_ _ | refine Kept.drewK ?_))))) (i2.kept (by (repeat (with_reducible (first | assumption | exact Kept.refl _ _ _ | (apply Kept.setK; rotate_left; (repeat (first | assumption | apply Kd.set | apply Kd.alloc | apply Kd.drew)); decide; omega) | refine Kept.allocK ?_ _ | refine Kept.drewK ?_))))) rfl, by (repeat (with_reducible (first | assumption | exact Below.refl _ _ | refine Below.setCell ?_ (by simp <;> omega) _ | refine Below.alloc ?_ (by simp <;> omega) _ | refine Below.drew ?_ | refine below_drewN ?_ _)))⟩
 ·have HY := Lib.hid (HY.out.trans (if_neg k1))
  have q1 : (x.kind == 1) = false := by simpa using k1
  clear k1
  by_cases k2 : x.kind = 2
  ·have HY := Lib.hid (HY.out.trans (if_pos k2))
   have q2 : (x.kind == 2) = true := by simpa using k2
   clear k2 hdk
   obtain ⟨b2_0, b2_1, b2_2, b2_3⟩ := b2.c4
   have b2_z := b2.free
   have b2_l := b2.lt
   obtain ⟨b3_0, b3_1, b3_2, b3_3, b3_4, b3_5, b3_6⟩ := b3.c7
   have b3_z := b3.free
   have b3_l := b3.lt
   go_wp2_with fail
   refine (stoBegin_v h HG.out hd).mono ?_
   rintro e1 w2 ⟨v2, rfl, s2, he⟩
   try clear b2_0 b2_1 b2_2 b2_3 b2_z b2_l b3_0 b3_1 b3_2 b3_3 b3_4 b3_5 b3_6 b3_z b3_l
   have hx := ext_trans hx he
   have b2 := b2.ext he
   have b3 := b3.ext he
   have b4 := b4.ext he
   clear he
   clear h hd q1 q2
   have HFI := Lib.hid (begin_fine HG.out x.deed)
   generalize (sBegin s x.deed).1 = y at s2 HFI HY
   generalize (sBegin s x.deed).2.1 = nn at HY ⊢
   generalize (sBegin s x.deed).2.2 = q at HY ⊢
   obtain ⟨A2, n2, c2, E2, m2, e2, F2, k2, f2, rfl, d2, i2, _, _, _, _, _, _⟩ := s2.form
   clear s2
   go_upto_region 6 with (fail)
   generalize hwn : World.alloc w2 _ = w3
   have he : Ext w2 w3 := by rw [← hwn]; exact ext_alloc _ _
   have bb : Box w3 w2.heap.size 30 #[.slice A2 n2 c2, .slice E2 m2 e2, .slice F2 k2 f2, .int .i64 y.next] := by rw [← hwn]; exact Box.new _ _ _ (by simp)
   clear hwn
   have lb := b4.lt
   have hx := ext_trans hx he
   have d2 := d2.ext he
   have i2 := i2.ext he
   have b3 := b3.ext he
   have b4 := b4.ext he
   clear he
   obtain ⟨gb, hgb⟩ : ∃ g, g = w2.heap.size := ⟨_, rfl⟩
   rw [← hgb] at bb lb ⊢
   clear hgb
   by_cases hq : q = 0
   ·obtain rfl := hq
    have HD := Lib.hid (HY.out.trans (if_neg (fun h => h rfl)))
    clear HY i2
    obtain ⟨bb_0, bb_1, bb_2, bb_3⟩ := bb.c4
    have bb_z := bb.free
    have bb_l := bb.lt
    obtain ⟨b3_0, b3_1, b3_2, b3_3, b3_4, b3_5, b3_6⟩ := b3.c7
    have b3_z := b3.free
    have b3_l := b3.lt
    go_wp2_with fail
    refine (dskKeep_v (k := x.n) d2 HFI.out.ok HFI.out.inn).mono ?_
    rintro e4 w4 ⟨v4, rfl, o4, he⟩
    try clear bb_0 bb_1 bb_2 bb_3 bb_z bb_l b3_0 b3_1 b3_2 b3_3 b3_4 b3_5 b3_6 b3_z b3_l
    have hx := ext_trans hx he
    have bb := bb.ext he
    have b3 := b3.ext he
    have b4 := b4.ext he
    clear he
    have d4 := o4.v
    clear d2 o4
    obtain ⟨A4, n4, c4, E4, m4, e4, rfl, _, _, _, _, _, _⟩ := d4.form
    go_wp2_with fail
    refine (stoMount_v d4 (HFI.out.keep x.n)).mono ?_
    rintro e5 w5 ⟨v5, rfl, s5, he⟩
    have hx := ext_trans hx he
    have b4 := b4.ext he
    clear he
    clear d4
    obtain ⟨A5, n5, c5, E5, m5, e5, F5, k5, f5, rfl, d5, i5, _, _, _, _, _, _⟩ := s5.form
    clear s5
    have k4 := b4.kd
    obtain ⟨b4_0, b4_1, b4_2, b4_3⟩ := b4.c4
    have b4_z := b4.free
    have b4_l := b4.lt
    go_wp2_with fail
    ((try simp only [Exit.inBlock, Exit.then]); refine bodyPost_ret (v := ?_) ?resultOf rfl ?_; case resultOf => (rw [results_ctt rfl]; go_simp; rfl))
    try clear b4_0 b4_1 b4_2 b4_3 b4_z b4_l
    rw [HD.out]
    exact ⟨_, rfl, StoV.mk (d5.kept (by (repeat (with_reducible (first | assumption | exact Kept.refl _ _ _ | (apply Kept.setK; rotate_left; (repeat (first | assumption | apply Kd.set | apply Kd.alloc | apply Kd.drew)); decide; omega) | refine Kept.allocK ?_ _ | refine Kept.drewK ?_))))) (i5.kept (by (repeat (with_reducible (first | assumption | exact Kept.refl _ _ _ | (apply Kept.setK; rotate_left; (repeat (first | assumption | apply Kd.set | apply Kd.alloc | apply Kd.drew)); decide; omega) | refine Kept.allocK ?_ _ | refine Kept.drewK ?_))))) rfl, by (repeat (with_reducible (first | assumption | exact Below.refl _ _ | refine Below.setCell ?_ (by simp <;> omega) _ | refine Below.alloc ?_ (by simp <;> omega) _ | refine Below.drew ?_ | refine below_drewN ?_ _)))⟩
   ·have HD := Lib.hid (HY.out.trans (if_pos hq))
    have qq : (q != 0) = true := by simpa using hq
    clear hq HY
    have k4 := b4.kd
    obtain ⟨b4_0, b4_1, b4_2, b4_3⟩ := b4.c4
    have b4_z := b4.free
    have b4_l := b4.lt
    obtain ⟨bb_0, bb_1, bb_2, bb_3⟩ := bb.c4
    have bb_z := bb.free
    have bb_l := bb.lt
    go_wp2_with fail
    ((try simp only [Exit.inBlock, Exit.then]); refine bodyPost_ret (v := ?_) ?resultOf rfl ?_; case resultOf => (rw [results_ctt rfl]; go_simp; rfl))
    try clear b4_0 b4_1 b4_2 b4_3 b4_z b4_l bb_0 bb_1 bb_2 bb_3 bb_z bb_l
    rw [HD.out]
    exact ⟨_, rfl, StoV.mk (d2.kept (by (repeat (with_reducible (first | assumption | exact Kept.refl _ _ _ | (apply Kept.setK; rotate_left; (repeat (first | assumption | apply Kd.set | apply Kd.alloc | apply Kd.drew)); decide; omega) | refine Kept.allocK ?_ _ | refine Kept.drewK ?_))))) (i2.kept (by (repeat (with_reducible (first | assumption | exact Kept.refl _ _ _ | (apply Kept.setK; rotate_left; (repeat (first | assumption | apply Kd.set | apply Kd.alloc | apply Kd.drew)); decide; omega) | refine Kept.allocK ?_ _ | refine Kept.drewK ?_))))) rfl, by (repeat (with_reducible (first | assumption | exact Below.refl _ _ | refine Below.setCell ?_ (by simp <;> omega) _ | refine Below.alloc ?_ (by simp <;> omega) _ | refine Below.drew ?_ | refine below_drewN ?_ _)))⟩
  ·have HY := Lib.hid (HY.out.trans (if_neg k2))
   have q2 : (x.kind == 2) = false := by simpa using k2
   clear k2
   by_cases k3 : x.kind = 3
   ·have HY := Lib.hid (HY.out.trans (if_pos k3))
    have q3 : (x.kind == 3) = true := by simpa using k3
    have hw192 : IntKind.wrap .i64 192 = 192 := rfl
    clear k3 hd
    rw [HG.out.disk.len] at HY
    by_cases hn : x.n < 0
    ·have HD := Lib.hid (HY.out.trans (if_pos (.inl hn)))
     have qn : decide (x.n < 0) = true := by simpa using hn
     clear hn HY hdk
     obtain ⟨b2_0, b2_1, b2_2, b2_3⟩ := b2.c4
     have b2_z := b2.free
     have b2_l := b2.lt
     obtain ⟨b3_0, b3_1, b3_2, b3_3, b3_4, b3_5, b3_6⟩ := b3.c7
     have b3_z := b3.free
     have b3_l := b3.lt
     go_wp2_with fail
     refine (stoOwn_v h HF.out).mono ?_
     rintro e1 w2 ⟨v2, rfl, s2, he⟩
     try clear b2_0 b2_1 b2_2 b2_3 b2_z b2_l b3_0 b3_1 b3_2 b3_3 b3_4 b3_5 b3_6 b3_z b3_l
     have hx := ext_trans hx he
     have b2 := b2.ext he
     have b3 := b3.ext he
     have b4 := b4.ext he
     clear he
     clear h
     obtain ⟨A2, n2, c2, E2, m2, e2, F2, k2, f2, rfl, d2, i2, _, _, _, _, _, _⟩ := s2.form
     have k4 := b4.kd
     obtain ⟨b4_0, b4_1, b4_2, b4_3⟩ := b4.c4
     have b4_z := b4.free
     have b4_l := b4.lt
     go_wp2_with fail
     ((try simp only [Exit.inBlock, Exit.then]); refine bodyPost_ret (v := ?_) ?resultOf rfl ?_; case resultOf => (rw [results_ctt rfl]; go_simp; rfl))
     try clear b4_0 b4_1 b4_2 b4_3 b4_z b4_l
     rw [HD.out]
     exact ⟨_, rfl, StoV.mk (d2.kept (by (repeat (with_reducible (first | assumption | exact Kept.refl _ _ _ | (apply Kept.setK; rotate_left; (repeat (first | assumption | apply Kd.set | apply Kd.alloc | apply Kd.drew)); decide; omega) | refine Kept.allocK ?_ _ | refine Kept.drewK ?_))))) (i2.kept (by (repeat (with_reducible (first | assumption | exact Kept.refl _ _ _ | (apply Kept.setK; rotate_left; (repeat (first | assumption | apply Kd.set | apply Kd.alloc | apply Kd.drew)); decide; omega) | refine Kept.allocK ?_ _ | refine Kept.drewK ?_))))) rfl, by (repeat (with_reducible (first | assumption | exact Below.refl _ _ | refine Below.setCell ?_ (by simp <;> omega) _ | refine Below.alloc ?_ (by simp <;> omega) _ | refine Below.drew ?_ | refine below_drewN ?_ _)))⟩
    ·have qn : decide (x.n < 0) = false := by simpa using hn
     by_cases hm : 192 ≤ x.n
     ·have HD := Lib.hid (HY.out.trans (if_pos (.inr (by omega))))
      have qm : decide (192 ≤ x.n) = true := by simpa using hm
      clear hm HY hdk hn
      obtain ⟨b2_0, b2_1, b2_2, b2_3⟩ := b2.c4
      have b2_z := b2.free
      have b2_l := b2.lt
      obtain ⟨b3_0, b3_1, b3_2, b3_3, b3_4, b3_5, b3_6⟩ := b3.c7
      have b3_z := b3.free
      have b3_l := b3.lt
      go_wp2_with fail
      refine (stoOwn_v h HF.out).mono ?_
      rintro e1 w2 ⟨v2, rfl, s2, he⟩
      try clear b2_0 b2_1 b2_2 b2_3 b2_z b2_l b3_0 b3_1 b3_2 b3_3 b3_4 b3_5 b3_6 b3_z b3_l
      have hx := ext_trans hx he
      have b2 := b2.ext he
      have b3 := b3.ext he
      have b4 := b4.ext he
      clear he
      clear h
      obtain ⟨A2, n2, c2, E2, m2, e2, F2, k2, f2, rfl, d2, i2, _, _, _, _, _, _⟩ := s2.form
      have k4 := b4.kd
      obtain ⟨b4_0, b4_1, b4_2, b4_3⟩ := b4.c4
      have b4_z := b4.free
      have b4_l := b4.lt
      go_wp2_with fail
      ((try simp only [Exit.inBlock, Exit.then]); refine bodyPost_ret (v := ?_) ?resultOf rfl ?_; case resultOf => (rw [results_ctt rfl]; go_simp; rfl))
      try clear b4_0 b4_1 b4_2 b4_3 b4_z b4_l
      rw [HD.out]
      exact ⟨_, rfl, StoV.mk (d2.kept (by (repeat (with_reducible (first | assumption | exact Kept.refl _ _ _ | (apply Kept.setK; rotate_left; (repeat (first | assumption | apply Kd.set | apply Kd.alloc | apply Kd.drew)); decide; omega) | refine Kept.allocK ?_ _ | refine Kept.drewK ?_))))) (i2.kept (by (repeat (with_reducible (first | assumption | exact Kept.refl _ _ _ | (apply Kept.setK; rotate_left; (repeat (first | assumption | apply Kd.set | apply Kd.alloc | apply Kd.drew)); decide; omega) | refine Kept.allocK ?_ _ | refine Kept.drewK ?_))))) rfl, by (repeat (with_reducible (first | assumption | exact Below.refl _ _ | refine Below.setCell ?_ (by simp <;> omega) _ | refine Below.alloc ?_ (by simp <;> omega) _ | refine Below.drew ?_ | refine below_drewN ?_ _)))⟩
     ·have HD := Lib.hid (HY.out.trans (if_neg (by omega)))
      have qm : decide (192 ≤ x.n) = false := by simpa using hm
      have hn0 : 0 ≤ x.n := by omega
      have hm0 : x.n < 192 := by omega
      have h1 : Int.tdiv x.n 16 = x.n / 16 := Int.tdiv_eq_ediv_of_nonneg hn0
      have h2 : Int.tmod x.n 16 = x.n % 16 := Int.tmod_eq_emod_of_nonneg hn0
      clear HY hn hm
      obtain ⟨b2_0, b2_1, b2_2, b2_3⟩ := b2.c4
      have b2_z := b2.free
      have b2_l := b2.lt
      obtain ⟨b3_0, b3_1, b3_2, b3_3, b3_4, b3_5, b3_6⟩ := b3.c7
      have b3_z := b3.free
      have b3_l := b3.lt
      go_wp2_with fail
      refine (stoOwn_v h HF.out).mono ?_
      rintro e1 w2 ⟨v2, rfl, s2, he⟩
      try clear b2_0 b2_1 b2_2 b2_3 b2_z b2_l b3_0 b3_1 b3_2 b3_3 b3_4 b3_5 b3_6 b3_z b3_l
      have hx := ext_trans hx he
      have hdk := hdk.ext he
      have b2 := b2.ext he
      have b3 := b3.ext he
      have b4 := b4.ext he
      clear he
      clear h
      obtain ⟨A2, n2, c2, E2, m2, e2, F2, k2, f2, rfl, _, i2, _, _, _, _, _, _⟩ := s2.form
      go_upto_region 13 with (fail)
      generalize hwn : World.alloc w2 _ = w3
      have he : Ext w2 w3 := by rw [← hwn]; exact ext_alloc _ _
      have bb : Box w3 w2.heap.size 30 #[.slice A2 n2 c2, .slice E2 m2 e2, .slice F2 k2 f2, .int .i64 s.next] := by rw [← hwn]; exact Box.new _ _ _ (by simp)
      clear hwn
      have lb := b4.lt
      have hx := ext_trans hx he
      have hdk := hdk.ext he
      have i2 := i2.ext he
      have b2 := b2.ext he
      have b3 := b3.ext he
      have b4 := b4.ext he
      clear he
      obtain ⟨gb, hgb⟩ : ∃ g, g = w2.heap.size := ⟨_, rfl⟩
      rw [← hgb] at bb lb ⊢
      clear hgb
      obtain ⟨b2_0, b2_1, b2_2, b2_3⟩ := b2.c4
      have b2_z := b2.free
      have b2_l := b2.lt
      obtain ⟨b3_0, b3_1, b3_2, b3_3, b3_4, b3_5, b3_6⟩ := b3.c7
      have b3_z := b3.free
      have b3_l := b3.lt
      go_wp2_with fail
      refine (dskSpoil_v (k := x.n / 16) (n := x.n % 16) (y := x.m) hdk HFD.out.ok).mono ?_
      rintro e4 w4 ⟨v4, rfl, o4, he⟩
      try clear b2_0 b2_1 b2_2 b2_3 b2_z b2_l b3_0 b3_1 b3_2 b3_3 b3_4 b3_5 b3_6 b3_z b3_l
      have hx := ext_trans hx he
      have i2 := i2.ext he
      have b2 := b2.ext he
      have b3 := b3.ext he
      have b4 := b4.ext he
      have bb := bb.ext he
      clear he
      have d4 := o4.v.sub tDS (Nat.le_refl _)
      clear hdk o4
      obtain ⟨A4, n4, c4, E4, m4, e4, rfl, _, _, _, _, _, _⟩ := d4.form
      have kb := bb.kd
      obtain ⟨bb_0, bb_1, bb_2, bb_3⟩ := bb.c4
      have bb_z := bb.free
      have bb_l := bb.lt
      go_upto_region 14 with (fail)
      try clear bb_0 bb_1 bb_2 bb_3 bb_z bb_l
      generalize hwn : World.setCell (World.setCell w4 _ _) _ _ = w5
      have b4 : Box w5 g4 30 #[.slice none 0 0, .slice none 0 0, .slice none 0 0, .int .i64 0] := by rw [← hwn]; (repeat (with_reducible (first | assumption | refine Box.alloc ?_ _ | refine Box.setOther ?_ (by simp <;> omega) _)))
      have d4 : DskV tS w5 0 (.agg #[.slice A4 n4 c4, .slice E4 m4 e4]) (dSpoil s.disk (x.n / 16) (x.n % 16) x.m) := d4.kept (by rw [← hwn]; (repeat (with_reducible (first | assumption | exact Kept.refl _ _ _ | (apply Kept.setK; rotate_left; (repeat (first | assumption | apply Kd.set | apply Kd.alloc | apply Kd.drew)); decide; omega) | refine Kept.allocK ?_ _ | refine Kept.drewK ?_))))
      have i2 : Row eEnt tS w5 0 (.slice F2 k2 f2) s.index := i2.kept (by rw [← hwn]; (repeat (with_reducible (first | assumption | exact Kept.refl _ _ _ | (apply Kept.setK; rotate_left; (repeat (first | assumption | apply Kd.set | apply Kd.alloc | apply Kd.drew)); decide; omega) | refine Kept.allocK ?_ _ | refine Kept.drewK ?_))))
      have hx : Ext w w5 := by rw [← hwn]; (repeat (with_reducible (first | assumption | exact Below.refl _ _ | refine Below.setCell ?_ (by simp <;> omega) _ | refine Below.alloc ?_ (by simp <;> omega) _ | refine Below.drew ?_ | refine below_drewN ?_ _)))
      have bb : Box w5 gb 30 #[.slice A4 n4 c4, .slice E4 m4 e4, .slice F2 k2 f2, .int .i64 s.next] := by rw [← hwn]; exact (bb.set 0 _).set 1 _
      clear hwn kb
      have k4 := b4.kd
      obtain ⟨b4_0, b4_1, b4_2, b4_3⟩ := b4.c4
      have b4_z := b4.free
      have b4_l := b4.lt
      obtain ⟨bb_0, bb_1, bb_2, bb_3⟩ := bb.c4
      have bb_z := bb.free
      have bb_l := bb.lt
      go_wp2_with fail
      ((try simp only [Exit.inBlock, Exit.then]); refine bodyPost_ret (v := ?_) ?resultOf rfl ?_; case resultOf => (rw [results_ctt rfl]; go_simp; rfl))
      try clear b4_0 b4_1 b4_2 b4_3 b4_z b4_l bb_0 bb_1 bb_2 bb_3 bb_z bb_l
      rw [HD.out]
      exact ⟨_, rfl, StoV.mk (d4.kept (by (repeat (with_reducible (first | assumption | exact Kept.refl _ _ _ | (apply Kept.setK; rotate_left; (repeat (first | assumption | apply Kd.set | apply Kd.alloc | apply Kd.drew)); decide; omega) | refine Kept.allocK ?_ _ | refine Kept.drewK ?_))))) (i2.kept (by (repeat (with_reducible (first | assumption | exact Kept.refl _ _ _ | (apply Kept.setK; rotate_left; (repeat (first | assumption | apply Kd.set | apply Kd.alloc | apply Kd.drew)); decide; omega) | refine Kept.allocK ?_ _ | refine Kept.drewK ?_))))) rfl, by (repeat (with_reducible (first | assumption | exact Below.refl _ _ | refine Below.setCell ?_ (by simp <;> omega) _ | refine Below.alloc ?_ (by simp <;> omega) _ | refine Below.drew ?_ | refine below_drewN ?_ _)))⟩
   ·have HY := Lib.hid (HY.out.trans (if_neg k3))
    have q3 : (x.kind == 3) = false := by simpa using k3
    clear k3 hd
    by_cases k4 : x.kind = 4
    ·have HD := Lib.hid (HY.out.trans (if_pos k4))
     have q4 : (x.kind == 4) = true := by simpa using k4
     clear k4 HY hdk
     obtain ⟨b2_0, b2_1, b2_2, b2_3⟩ := b2.c4
     have b2_z := b2.free
     have b2_l := b2.lt
     obtain ⟨b3_0, b3_1, b3_2, b3_3, b3_4, b3_5, b3_6⟩ := b3.c7
     have b3_z := b3.free
     have b3_l := b3.lt
     go_wp2_with fail
     refine (scOne_v h HG.out).mono ?_
     rintro e1 w2 ⟨v2, rfl, s2, he⟩
     try clear b2_0 b2_1 b2_2 b2_3 b2_z b2_l b3_0 b3_1 b3_2 b3_3 b3_4 b3_5 b3_6 b3_z b3_l
     have hx := ext_trans hx he
     have b2 := b2.ext he
     have b3 := b3.ext he
     have b4 := b4.ext he
     clear he
     clear h
     obtain ⟨A2, n2, c2, E2, m2, e2, F2, k2, f2, rfl, d2, i2, _, _, _, _, _, _⟩ := s2.form
     clear s2
     go_upto_region 17 with (fail)
     generalize hwn : World.alloc w2 _ = w3
     have he : Ext w2 w3 := by rw [← hwn]; exact ext_alloc _ _
     have bb : Box w3 w2.heap.size 30 #[.slice A2 n2 c2, .slice E2 m2 e2, .slice F2 k2 f2, .int .i64 (scOne s).1.next] := by rw [← hwn]; exact Box.new _ _ _ (by simp)
     clear hwn
     have lb := b4.lt
     have hx := ext_trans hx he
     have d2 := d2.ext he
     have i2 := i2.ext he
     have b4 := b4.ext he
     clear he
     obtain ⟨gb, hgb⟩ : ∃ g, g = w2.heap.size := ⟨_, rfl⟩
     rw [← hgb] at bb lb ⊢
     clear hgb
     have k4 := b4.kd
     obtain ⟨b4_0, b4_1, b4_2, b4_3⟩ := b4.c4
     have b4_z := b4.free
     have b4_l := b4.lt
     obtain ⟨bb_0, bb_1, bb_2, bb_3⟩ := bb.c4
     have bb_z := bb.free
     have bb_l := bb.lt
     go_wp2_with fail
     ((try simp only [Exit.inBlock, Exit.then]); refine bodyPost_ret (v := ?_) ?resultOf rfl ?_; case resultOf => (rw [results_ctt rfl]; go_simp; rfl))
     try clear b4_0 b4_1 b4_2 b4_3 b4_z b4_l bb_0 bb_1 bb_2 bb_3 bb_z bb_l
     rw [HD.out]
     exact ⟨_, rfl, StoV.mk (d2.kept (by (repeat (with_reducible (first | assumption | exact Kept.refl _ _ _ | (apply Kept.setK; rotate_left; (repeat (first | assumption | apply Kd.set | apply Kd.alloc | apply Kd.drew)); decide; omega) | refine Kept.allocK ?_ _ | refine Kept.drewK ?_))))) (i2.kept (by (repeat (with_reducible (first | assumption | exact Kept.refl _ _ _ | (apply Kept.setK; rotate_left; (repeat (first | assumption | apply Kd.set | apply Kd.alloc | apply Kd.drew)); decide; omega) | refine Kept.allocK ?_ _ | refine Kept.drewK ?_))))) rfl, by (repeat (with_reducible (first | assumption | exact Below.refl _ _ | refine Below.setCell ?_ (by simp <;> omega) _ | refine Below.alloc ?_ (by simp <;> omega) _ | refine Below.drew ?_ | refine below_drewN ?_ _)))⟩
    ·have HY := Lib.hid (HY.out.trans (if_neg k4))
     have q4 : (x.kind == 4) = false := by simpa using k4
     clear k4
     by_cases k5 : x.kind = 5
     ·have HD := Lib.hid (HY.out.trans (if_pos k5))
      have q5 : (x.kind == 5) = true := by simpa using k5
      clear k5 HY h
      have HE := Lib.hid HG.out.disk.even
      obtain ⟨b2_0, b2_1, b2_2, b2_3⟩ := b2.c4
      have b2_z := b2.free
      have b2_l := b2.lt
      obtain ⟨b3_0, b3_1, b3_2, b3_3, b3_4, b3_5, b3_6⟩ := b3.c7
      have b3_z := b3.free
      have b3_l := b3.lt
      go_wp2_with fail
      refine (fClean_v hdk HFD.out HG.out.disk.len).mono ?_
      rintro e4 w4 ⟨v4, tw4, rfl, d4, r4, he⟩
      try clear b2_0 b2_1 b2_2 b2_3 b2_z b2_l b3_0 b3_1 b3_2 b3_3 b3_4 b3_5 b3_6 b3_z b3_l
      have hx := ext_trans hx he
      have b2 := b2.ext he
      have b3 := b3.ext he
      have b4 := b4.ext he
      clear he
      clear hdk
      obtain ⟨A4, n4, c4, E4, m4, e4, rfl, _, _, _, _, _, _⟩ := d4.form
      obtain ⟨A7, n7, c7, rfl, _, _, _⟩ := r4.form
      clear r4
      unfold repC
      go_upto_region 20 with (fail)
      generalize hwn : World.alloc (World.alloc w4 _) _ = w5
      have he : Ext w4 w5 := by rw [← hwn]; exact (ext_alloc _ _).alloc (by simp) _
      have bb : Box w5 w4.heap.size 27 #[.slice A4 n4 c4, .slice E4 m4 e4] := by rw [← hwn]; exact (Box.new _ _ _ (by simp)).alloc _
      clear hwn
      have lb := b4.lt
      have hx := ext_trans hx he
      have d4 := d4.ext he
      have b4 := b4.ext he
      clear he
      obtain ⟨gb, hgb⟩ : ∃ g, g = w4.heap.size := ⟨_, rfl⟩
      rw [← hgb] at bb lb ⊢
      clear hgb
      obtain ⟨bb_0, bb_1⟩ := bb.c2
      have bb_z := bb.free
      have bb_l := bb.lt
      go_wp2_with fail
      refine (stoMount_v d4 (clean_fine HE.out)).mono ?_
      rintro e6 w6 ⟨v6, rfl, s6, he⟩
      try clear bb_0 bb_1 bb_z bb_l
      have hx := ext_trans hx he
      have bb := bb.ext he
      have b4 := b4.ext he
      clear he
      clear d4
      obtain ⟨A2, n2, c2, E2, m2, e2, F2, k2, f2, rfl, d2, i2, _, _, _, _, _, _⟩ := s6.form
      clear s6
      have k4 := b4.kd
      obtain ⟨b4_0, b4_1, b4_2, b4_3⟩ := b4.c4
      have b4_z := b4.free
      have b4_l := b4.lt
      go_wp2_with fail
      ((try simp only [Exit.inBlock, Exit.then]); refine bodyPost_ret (v := ?_) ?resultOf rfl ?_; case resultOf => (rw [results_ctt rfl]; go_simp; rfl))
      try clear b4_0 b4_1 b4_2 b4_3 b4_z b4_l
      rw [HD.out]
      exact ⟨_, rfl, StoV.mk (d2.kept (by (repeat (with_reducible (first | assumption | exact Kept.refl _ _ _ | (apply Kept.setK; rotate_left; (repeat (first | assumption | apply Kd.set | apply Kd.alloc | apply Kd.drew)); decide; omega) | refine Kept.allocK ?_ _ | refine Kept.drewK ?_))))) (i2.kept (by (repeat (with_reducible (first | assumption | exact Kept.refl _ _ _ | (apply Kept.setK; rotate_left; (repeat (first | assumption | apply Kd.set | apply Kd.alloc | apply Kd.drew)); decide; omega) | refine Kept.allocK ?_ _ | refine Kept.drewK ?_))))) rfl, by (repeat (with_reducible (first | assumption | exact Below.refl _ _ | refine Below.setCell ?_ (by simp <;> omega) _ | refine Below.alloc ?_ (by simp <;> omega) _ | refine Below.drew ?_ | refine below_drewN ?_ _)))⟩
     ·have HY := Lib.hid (HY.out.trans (if_neg k5))
      have q5 : (x.kind == 5) = false := by simpa using k5
      clear k5
      by_cases k6 : x.kind = 6
      ·have HD := Lib.hid (HY.out.trans (if_pos k6))
       have q6 : (x.kind == 6) = true := by simpa using k6
       clear k6 HY h
       obtain ⟨b2_0, b2_1, b2_2, b2_3⟩ := b2.c4
       have b2_z := b2.free
       have b2_l := b2.lt
       obtain ⟨b3_0, b3_1, b3_2, b3_3, b3_4, b3_5, b3_6⟩ := b3.c7
       have b3_z := b3.free
       have b3_l := b3.lt
       go_wp2_with fail
       refine (stoMount_v hdk HFD.out).mono ?_
       rintro e6 w6 ⟨v6, rfl, s6, he⟩
       try clear b2_0 b2_1 b2_2 b2_3 b2_z b2_l b3_0 b3_1 b3_2 b3_3 b3_4 b3_5 b3_6 b3_z b3_l
       have hx := ext_trans hx he
       have b2 := b2.ext he
       have b3 := b3.ext he
       have b4 := b4.ext he
       clear he
       clear hdk
       obtain ⟨A2, n2, c2, E2, m2, e2, F2, k2, f2, rfl, d2, i2, _, _, _, _, _, _⟩ := s6.form
       clear s6
       have k4 := b4.kd
       obtain ⟨b4_0, b4_1, b4_2, b4_3⟩ := b4.c4
       have b4_z := b4.free
       have b4_l := b4.lt
       go_wp2_with fail
       ((try simp only [Exit.inBlock, Exit.then]); refine bodyPost_ret (v := ?_) ?resultOf rfl ?_; case resultOf => (rw [results_ctt rfl]; go_simp; rfl))
       try clear b4_0 b4_1 b4_2 b4_3 b4_z b4_l
       rw [HD.out]
       exact ⟨_, rfl, StoV.mk (d2.kept (by (repeat (with_reducible (first | assumption | exact Kept.refl _ _ _ | (apply Kept.setK; rotate_left; (repeat (first | assumption | apply Kd.set | apply Kd.alloc | apply Kd.drew)); decide; omega) | refine Kept.allocK ?_ _ | refine Kept.drewK ?_))))) (i2.kept (by (repeat (with_reducible (first | assumption | exact Kept.refl _ _ _ | (apply Kept.setK; rotate_left; (repeat (first | assumption | apply Kd.set | apply Kd.alloc | apply Kd.drew)); decide; omega) | refine Kept.allocK ?_ _ | refine Kept.drewK ?_))))) rfl, by (repeat (with_reducible (first | assumption | exact Below.refl _ _ | refine Below.setCell ?_ (by simp <;> omega) _ | refine Below.alloc ?_ (by simp <;> omega) _ | refine Below.drew ?_ | refine below_drewN ?_ _)))⟩
      ·have HD := Lib.hid (HY.out.trans (if_neg k6))
       have q6 : (x.kind == 6) = false := by simpa using k6
       clear k6 HY hdk
       obtain ⟨b2_0, b2_1, b2_2, b2_3⟩ := b2.c4
       have b2_z := b2.free
       have b2_l := b2.lt
       obtain ⟨b3_0, b3_1, b3_2, b3_3, b3_4, b3_5, b3_6⟩ := b3.c7
       have b3_z := b3.free
       have b3_l := b3.lt
       go_wp2_with fail
       refine (stoOwn_v h HF.out).mono ?_
       rintro e1 w2 ⟨v2, rfl, s2, he⟩
       try clear b2_0 b2_1 b2_2 b2_3 b2_z b2_l b3_0 b3_1 b3_2 b3_3 b3_4 b3_5 b3_6 b3_z b3_l
       have hx := ext_trans hx he
       have b2 := b2.ext he
       have b3 := b3.ext he
       have b4 := b4.ext he
       clear he
       clear h
       obtain ⟨A2, n2, c2, E2, m2, e2, F2, k2, f2, rfl, d2, i2, _, _, _, _, _, _⟩ := s2.form
       have k4 := b4.kd
       obtain ⟨b4_0, b4_1, b4_2, b4_3⟩ := b4.c4
       have b4_z := b4.free
       have b4_l := b4.lt
       go_wp2_with fail
       ((try simp only [Exit.inBlock, Exit.then]); refine bodyPost_ret (v := ?_) ?resultOf rfl ?_; case resultOf => (rw [results_ctt rfl]; go_simp; rfl))
       try clear b4_0 b4_1 b4_2 b4_3 b4_z b4_l
       rw [HD.out]
       exact ⟨_, rfl, StoV.mk (d2.kept (by (repeat (with_reducible (first | assumption | exact Kept.refl _ _ _ | (apply Kept.setK; rotate_left; (repeat (first | assumption | apply Kd.set | apply Kd.alloc | apply Kd.drew)); decide; omega) | refine Kept.allocK ?_ _ | refine Kept.drewK ?_))))) (i2.kept (by (repeat (with_reducible (first | assumption | exact Kept.refl _ _ _ | (apply Kept.setK; rotate_left; (repeat (first | assumption | apply Kd.set | apply Kd.alloc | apply Kd.drew)); decide; omega) | refine Kept.allocK ?_ _ | refine Kept.drewK ?_))))) rfl, by (repeat (with_reducible (first | assumption | exact Below.refl _ _ | refine Below.setCell ?_ (by simp <;> omega) _ | refine Below.alloc ?_ (by simp <;> omega) _ | refine Below.drew ?_ | refine below_drewN ?_ _)))⟩
end Go.Proofs.YtdmnmfnmaccmoaaGreatDoor
