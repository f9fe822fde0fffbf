/- Walks: store.Mount, New, Records, Get. -/
import Derived.Test.YtdmnmfnmaccmoaaGreatDoorSc2
import Derived.Test.YtdmnmfnmaccmoaaGreatDoorSc4
namespace Go.Proofs.YtdmnmfnmaccmoaaGreatDoor
open Go Go.RowKit
set_option maxRecDepth 100000 in
set_option maxHeartbeats 4000000 in
theorem stoMount_v {T : List TypeId} {base k : Nat} {v : Value} {d : Dsk} {w : World} (h : DskV T w base v d) (hf : Fine d k) :
  Calls Tryz.prog 19 #[v] w fun e w' => ∃ v', e = .returned v' ∧ StoV tS w' 0 v' (sMount d) ∧ Ext w w' := by
 obtain ⟨A, n, c, E, m, e, rfl, _, _, _, _, _, _⟩ := h.form
 have HF := Lib.hid hf
 clear hf
 go_enter Tryz.func19, Tryz.ntmps19
 go_upto_region 1 with (fail)
 generalize hwn : World.alloc (World.alloc w _) _ = w1
 have hx : Ext w w1 := by rw [← hwn]; (repeat (with_reducible (first | assumption | exact Below.refl _ _ | refine Below.setCell ?_ (by simp <;> omega) _ | refine Below.alloc ?_ (by simp <;> omega) _ | refine Below.drew ?_ | refine below_drewN ?_ _)))
 have b1 : Box w1 w.heap.size 27 #[.slice A n c, .slice E m e] := by rw [← hwn]; exact (Box.new _ _ _ rfl).alloc _
 have b2 : Box w1 (w.heap.size + 1) 30 #[.slice none 0 0, .slice none 0 0, .slice none 0 0, .int .i64 0] := by rw [← hwn]; exact Box.new _ _ _ (by simp)
 clear hwn
 obtain ⟨g2, hg2⟩ : ∃ g, g = w.heap.size + 1 := ⟨_, rfl⟩
 have l2 : w.heap.size < g2 := by omega
 rw [← hg2] at b2 ⊢
 clear hg2
 have h := h.ext hx
 obtain ⟨b1_0, b1_1⟩ := b1.c2
 have b1_z := b1.free
 have b1_l := b1.lt
 go_wp2_with fail
 refine (dskKeep_v (k := 0) h HF.out.ok HF.out.inn).mono ?_
 rintro e2 w2 ⟨v2, rfl, o2, he⟩
 try clear b1_0 b1_1 b1_z b1_l
 have hx := ext_trans hx he
 have b1 := b1.ext he
 have b2 := b2.ext he
 clear he
 have d2 := o2.v
 clear h b1 o2
 obtain ⟨A2, n2, c2, E2, m2, e2, rfl, _, _, _, _, _, _⟩ := d2.form
 have HM := Lib.hid (HF.out.keep 0)
 go_upto_region 2 with (fail)
 generalize hwn : World.alloc w2 _ = w3
 have he : Ext w2 w3 := by rw [← hwn]; exact ext_alloc _ _
 have b3 : Box w3 w2.heap.size 27 #[.slice A2 n2 c2, .slice E2 m2 e2] := by rw [← hwn]; exact Box.new _ _ _ (by simp)
 clear hwn
 have l3 := b2.lt
 have hx := ext_trans hx he
 have d2 := d2.ext he
 have b2 := b2.ext he
 clear he
 obtain ⟨g3, hg3⟩ : ∃ g, g = w2.heap.size := ⟨_, rfl⟩
 rw [← hg3] at b3 l3 ⊢
 clear hg3
 have he : Ext w3 w3.drew := (Below.refl _ _).drew
 have hx := ext_trans hx he
 have d2 := d2.ext he
 have b2 := b2.ext he
 have b3 := b3.ext he
 clear he
 refine wp_region_ue 5 [] [0, 1, 3] rfl (by kernel_rfl) (by kernel_rfl) ?_
 generalize w3.drew = D at hx d2 b2 b3 ⊢
 apply uF 0 (by kernel_rfl) (by rfl) (by rfl) (by rfl)
 ·(intro w' hx; obtain ⟨x0, x1⟩ := (b3.ext hx).c2; go_simp <;> with_reducible rfl)
 simp only [pA, pB, pC, pD]
 apply uF 1 (by kernel_rfl) (by rfl) (by rfl) (by rfl)
 ·(intro w' hx; obtain ⟨x0, x1⟩ := (b3.ext hx).c2; go_simp <;> with_reducible rfl)
 simp only [pA, pB, pC, pD]
 refine uS 2 (by kernel_rfl) (by kernel_rfl) (by rfl) (by rfl) (fun K hK => ?_)
 go_wp2_with (go_at_call 45; refine (ixScan_v d2 HM.out.ok).mono ?_; rintro e w4 ⟨v3, rfl, o3, he⟩)
 refine hK.out _ _ (he) ?_
 clear hK K
 try simp only [pA, pB, pC, pD]
 have r3 := o3.row (T := tS) (base := 0) (base' := 0) (by decide) (Nat.le_refl _)
 clear o3 b3
 obtain ⟨A3, n3, c3, rfl, _, _, _⟩ := r3.form
 have hx := ext_trans hx he
 have b2 := b2.ext he
 have d2 := d2.ext he
 clear he
 apply uF 3 (by kernel_rfl) (by rfl) (by rfl) (by rfl)
 ·(intro w' hx; go_simp <;> with_reducible rfl)
 simp only [pA, pB, pC, pD]
 refine uL 4 (by kernel_rfl) (by kernel_rfl) (by kernel_rfl) (by rfl) (by rfl) (fun K hK => ?_)
 have hK' := Lib.hid hK
 clear hK
 have k2 := b2.kd
 obtain ⟨b2_0, b2_1, b2_2, b2_3⟩ := b2.c4
 have b2_z := b2.free
 have b2_l := b2.lt
 go_wp2
 refine hK'.out _ _ ?_
 clear hK' K
 refine uEnd (by kernel_rfl) ?_
 go_wp2_with fail
 ((try simp only [Exit.inBlock, Exit.then]); refine bodyPost_ret (v := ?_) ?resultOf rfl ?_; case resultOf => (rw [results_cell1 rfl]; go_simp; rfl))
 try clear b2_0 b2_1 b2_2 b2_3 b2_z b2_l
 refine ⟨_, rfl, ?_, by (repeat (with_reducible (first | assumption | exact Below.refl _ _ | refine Below.setCell ?_ (by simp <;> omega) _ | refine Below.alloc ?_ (by simp <;> omega) _ | refine Below.drew ?_ | refine below_drewN ?_ _)))⟩
 exact StoV.mk ((d2.sub tDS (Nat.le_refl _)).kept (by (repeat (with_reducible (first | assumption | exact Kept.refl _ _ _ | (apply Kept.setK; rotate_left; (repeat (first | assumption | apply Kd.set | apply Kd.alloc | apply Kd.drew)); decide; omega) | refine Kept.allocK ?_ _ | refine Kept.drewK ?_))))) (r3.kept (by (repeat (with_reducible (first | assumption | exact Kept.refl _ _ _ | (apply Kept.setK; rotate_left; (repeat (first | assumption | apply Kd.set | apply Kd.alloc | apply Kd.drew)); decide; omega) | refine Kept.allocK ?_ _ | refine Kept.drewK ?_))))) rfl
set_option maxRecDepth 100000 in
set_option maxHeartbeats 4000000 in
theorem stoNew_v (w : World) : Calls Tryz.prog 11 #[] w fun e w' => ∃ v', e = .returned v' ∧ StoV tS w' 0 v' sNew ∧ Ext w w' := by
 go_enter Tryz.func11, Tryz.ntmps11
 go_upto_region 1 with (fail)
 generalize hwn : World.alloc w _ = w1
 have hx : Ext w w1 := by rw [← hwn]; (repeat (with_reducible (first | assumption | exact Below.refl _ _ | refine Below.setCell ?_ (by simp <;> omega) _ | refine Below.alloc ?_ (by simp <;> omega) _ | refine Below.drew ?_ | refine below_drewN ?_ _)))
 have b0 : Box w1 w.heap.size 30 #[.slice none 0 0, .slice none 0 0, .slice none 0 0, .int .i64 0] := by rw [← hwn]; exact Box.new _ _ _ rfl
 clear hwn
 obtain ⟨g0, hg0⟩ : ∃ g, g = w.heap.size := ⟨_, rfl⟩
 have l0 : w.heap.size ≤ g0 := by omega
 rw [show Box w1 w.heap.size 30 #[.slice none 0 0, .slice none 0 0, .slice none 0 0, .int .i64 0] ↔ Box w1 g0 30 #[.slice none 0 0, .slice none 0 0, .slice none 0 0, .int .i64 0] by rw [hg0]] at b0
 rw [← hg0]
 clear hg0
 go_wp2_with fail
 refine (new_v _).mono ?_
 rintro e2 w2 ⟨v2, rfl, o2, he⟩
 have hx := ext_trans hx he
 have b0 := b0.ext he
 clear he
 have d2 := o2.v.sub tDS (Nat.le_refl _)
 clear o2
 go_wp2_with fail
 refine (stoMount_v d2 free_fine).mono ?_
 rintro e3 w3 ⟨v3, rfl, s3, he⟩
 have hx := ext_trans hx he
 have b0 := b0.ext he
 clear he
 obtain ⟨A3, n3, c3, E3, m3, e3, F3, k3, f3, rfl, d3, i3, _, _, _, _, _, _⟩ := s3.form
 have k0 := b0.kd
 have HSN := Lib.hid (show (sMount dFree).next = 0 from rfl)
 rw [HSN.out]
 obtain ⟨b0_0, b0_1, b0_2, b0_3⟩ := b0.c4
 have b0_z := b0.free
 have b0_l := b0.lt
 go_wp2_with fail
 ((try simp only [Exit.inBlock, Exit.then]); refine bodyPost_ret (v := ?_) ?resultOf rfl ?_; case resultOf => (rw [results_cell1 rfl]; go_simp; rfl))
 try clear b0_0 b0_1 b0_2 b0_3 b0_z b0_l
 refine ⟨_, rfl, ?_, by (repeat (with_reducible (first | assumption | exact Below.refl _ _ | refine Below.setCell ?_ (by simp <;> omega) _ | refine Below.alloc ?_ (by simp <;> omega) _ | refine Below.drew ?_ | refine below_drewN ?_ _)))⟩
 exact StoV.mk (d3.kept (by (repeat (with_reducible (first | assumption | exact Kept.refl _ _ _ | (apply Kept.setK; rotate_left; (repeat (first | assumption | apply Kd.set | apply Kd.alloc | apply Kd.drew)); decide; omega) | refine Kept.allocK ?_ _ | refine Kept.drewK ?_))))) (i3.kept (by (repeat (with_reducible (first | assumption | exact Kept.refl _ _ _ | (apply Kept.setK; rotate_left; (repeat (first | assumption | apply Kd.set | apply Kd.alloc | apply Kd.drew)); decide; omega) | refine Kept.allocK ?_ _ | refine Kept.drewK ?_))))) rfl
set_option maxRecDepth 100000 in
set_option maxHeartbeats 4000000 in
theorem stoRecs_v {T : List TypeId} {base : Nat} {v : Value} {s : Sto} {w : World} (h : StoV T w base v s) (hl : s.index.length ≤ 4096) (hs : ∀ e ∈ s.index, e.rcd.data.length ≤ 4096) :
  Calls Tryz.prog 12 #[v] w fun e w' => ∃ v', e = .returned v' ∧ OwnRow eRec w' w.heap.size 0 v' (sRecs s) ∧ Ext w w' := by
 obtain ⟨A, n, c, E, m, e, F, k, f, rfl, _, hi, _, _, _, _, _, _⟩ := (h.all (T' := tS)).form
 have HLL := Lib.hid hl
 have HSS := Lib.hid hs
 have HRS := Lib.hid (show sRecs s = s.index.map fun e => e.rcd from rfl)
 generalize s.index = l at hi HLL HSS HRS
 generalize s.next = sn
 clear h hl hs
 go_enter Tryz.func12, Tryz.ntmps12
 go_upto_region 2 with (fail)
 generalize hwn : World.alloc w _ = w0
 have hx : Ext w w0 := by rw [← hwn]; (repeat (with_reducible (first | assumption | exact Below.refl _ _ | refine Below.setCell ?_ (by simp <;> omega) _ | refine Below.alloc ?_ (by simp <;> omega) _ | refine Below.drew ?_ | refine below_drewN ?_ _)))
 have b1 : Box w0 w.heap.size 30 #[.slice A n c, .slice E m e, .slice F k f, .int .i64 sn] := by rw [← hwn]; exact Box.new _ _ _ rfl
 clear hwn
 have hi := hi.ext hx
 obtain ⟨b1_0, b1_1, b1_2, b1_3⟩ := b1.c4
 have b1_z := b1.free
 have b1_l := b1.lt
 go_wp2_with fail
 refine (ixOwn_v hi HLL.out HSS.out).mono ?_
 rintro e1 w1 ⟨v1, rfl, o1, he⟩
 try clear b1_0 b1_1 b1_2 b1_3 b1_z b1_l
 have hx := ext_trans hx he
 have b1 := b1.ext he
 clear he
 have hi := o1.row (T := tS) (base := 0) (base' := 0) (by decide) (Nat.le_refl _)
 clear o1 b1
 obtain ⟨F, k, f, rfl, hkf, hfm, HK⟩ := hi.form
 unfold maxLen at hfm
 have hz1 := hx.size
 go_upto_region 3 with (fail)
 go_loopw [3, 10] (fun v3 i wr => ∃ a : Nat, a ≤ k ∧ i = .int .i64 a ∧ OwnRow eRec wr w1.heap.size 0 v3 ((l.take a).map (fun e => e.rcd)) ∧ Ext w1 wr) (fun _ i _ => k - (intOf i).toNat)
 case atStart => exact ⟨0, by omega, rfl, OwnRow.nil _ _ _ _, Below.refl _ _⟩
 case round =>
  obtain ⟨a, ha, rfl, own, hxd⟩ := hrel
  have hz := hxd.size
  by_cases hlt : a < k
  ·have i0 : (0 : Int) ≤ (a : Int) := by omega
   have i1 : (a : Int) < (k : Int) := by omega
   have hal : a < l.length := HK.out ▸ hlt
   obtain ⟨g1, o1, u1, rfl, hg1, hu1, f1⟩ := hi.ent_x hlt
   have HST := Lib.hid (recs_step hal)
   generalize l.getD a ⟨rZero, 0⟩ = x at f1 hu1 HST
   obtain ⟨AX, nx, cx, rfl, _, _⟩ := hu1.form
   obtain ⟨x0, x1, x2, x3, x4⟩ := f1 _ hxd
   have hu1 := hu1.ext hxd
   clear f1 hg1
   go_upto_region 5 with (fail)
   generalize hwn : World.alloc wr _ = w3
   have he : Ext wr w3 := by rw [← hwn]; exact ext_alloc _ _
   have b5 : Box w3 wr.heap.size 78 (cE x (.slice AX nx cx)) := by rw [← hwn]; exact Box.new _ _ _ (by simp)
   clear hwn x0 x1 x2 x3 x4
   have hz3 := he.size
   have hxd := ext_trans hxd he
   have own := own.ext he
   have hu1 := hu1.ext he
   clear he
   have HL9 : Hid (((l.take a).map (fun e => e.rcd)).length + 1 ≤ lim) := Lib.hid (by
    have := HLL.out
    rw [List.length_map, List.length_take, lim_def]
    omega)
   obtain ⟨b5_0, b5_1, b5_2, b5_3, b5_4⟩ := b5.c5
   have b5_z := b5.free
   have b5_l := b5.lt
   go_upto_region 6 with (at_builtin; (refine wpl_rec rfl (.tmp 14) (.tmp 17) rfl rfl (own.ext (ext_alloc _ _)) rfl (Sl.new _ _ _ _ 4 1 rfl (by unfold maxLen; omega) (Nat.lt_succ_self _)) (y := x.rcd) ⟨_, rfl, hu1.ext (ext_alloc _ _)⟩ HL9.out (by rw [size_alloc]; omega) (by omega) ?_; intro v7 w7 own7 hg7 hb7))
   try clear b5_0 b5_1 b5_2 b5_3 b5_4 b5_z b5_l
   rw [← HST.out] at own7
   have hxd : Ext w1 w7 := (hxd.alloc hxd.size _).trans hb7
   go_wp2_with fail
   refine ⟨⟨a + 1, by omega, rfl, own7, hxd⟩, ?_⟩
   simp only [intOf]
   omega
  ·obtain rfl : a = k := by omega
   have hrs : (l.take a).map (fun e => e.rcd) = sRecs s := by rw [HRS.out, HK.out, List.take_length]
   rw [hrs] at own
   clear hrs
   go_wp2_with fail
   go_ret
   exact ⟨_, rfl, own.more hz1 (Nat.le_refl _), ext_trans hx hxd⟩
set_option maxRecDepth 100000 in
set_option maxHeartbeats 4000000 in
theorem stoGet_v {T : List TypeId} {base : Nat} {v : Value} {s : Sto} {key : Int} {w : World} (h : StoV T w base v s) (hf : StoF s) (hr : iRight s.index) :
  Calls Tryz.prog 10 #[v, .int .i64 key] w fun e w' => ∃ v' q, e = .returned (.tuple #[v', .int .i64 q]) ∧ Hid (q = (sGet s key).2) ∧ ByT w' w'.heap.size v' (sGet s key).1 ∧ Ext w w' := by
 obtain ⟨A, n, c, E, m, e, F, k, f, rfl, _, _, _, _, _, _, _, _⟩ := h.form
 have HF := Lib.hid hf
 have HR := Lib.hid (sRecs_right hr)
 clear hf hr
 go_enter Tryz.func10, Tryz.ntmps10
 go_upto_region 1 with (fail)
 generalize hwn : World.alloc w _ = w1
 have hx : Ext w w1 := by rw [← hwn]; (repeat (with_reducible (first | assumption | exact Below.refl _ _ | refine Below.setCell ?_ (by simp <;> omega) _ | refine Below.alloc ?_ (by simp <;> omega) _ | refine Below.drew ?_ | refine below_drewN ?_ _)))
 have b1 : Box w1 w.heap.size 30 #[.slice A n c, .slice E m e, .slice F k f, .int .i64 s.next] := by rw [← hwn]; exact Box.new _ _ _ rfl
 clear hwn
 have h := h.ext hx
 obtain ⟨b1_0, b1_1, b1_2, b1_3⟩ := b1.c4
 have b1_z := b1.free
 have b1_l := b1.lt
 go_wp2_with fail
 refine (stoRecs_v h HF.out.len HF.out.small).mono ?_
 rintro e2 w2 ⟨v2, rfl, o2, he⟩
 try clear b1_0 b1_1 b1_2 b1_3 b1_z b1_l
 have hx := ext_trans hx he
 have b1 := b1.ext he
 clear he
 have r2 := o2.row (T := [54]) (base' := 0) (by decide) (Nat.le_refl _)
 clear o2 b1
 go_wp2_with fail
 refine (mGet_v (key := key) r2 HR.out).mono ?_
 rintro e3 w3 ⟨v3, q3, rfl, HQ, hy, he⟩
 have hx := ext_trans hx he
 clear he
 go_wp2_with fail
 go_ret2
 exact ⟨_, _, rfl, HQ, hy, hx⟩
end Go.Proofs.YtdmnmfnmaccmoaaGreatDoor
