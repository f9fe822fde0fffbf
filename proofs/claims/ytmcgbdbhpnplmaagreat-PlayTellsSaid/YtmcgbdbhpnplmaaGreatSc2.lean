/- Walks: scref6.Mount, New, SameStore. -/
import Derived.Test.YtmcgbdbhpnplmaaGreatA5
import Derived.Test.YtmcgbdbhpnplmaaGreatIx6
import Derived.Test.YtmcgbdbhpnplmaaGreatA4
namespace Go.Proofs.YtmcgbdbhpnplmaaGreat
open Go Go.RowKit
set_option maxRecDepth 100000 in
set_option maxHeartbeats 4000000 in
theorem refMount_v {base k : Nat} {v : Value} {d : Dsk} {w : World} (hbase : base ≤ w.heap.size) (h : DskV tS w base v d) (hf : Fine d k) :
  Calls Tryz.prog 20 #[v] w fun e w' => ∃ v', e = .returned v' ∧ StoV tS w' base v' (sMount d) ∧ Ext w w' := by
 obtain ⟨A, n, c, E, m, e, rfl, _, _, _, _, _, _⟩ := h.form
 have HF := Lib.hid hf
 clear hf
 go_enter Tryz.func20, Tryz.ntmps20
 go_upto_region 1 with (fail)
 generalize hwn : World.alloc (World.alloc w _) _ = w1
 have hx : Ext w w1 := by rw [← hwn]; (repeat (with_reducible (first | assumption | exact Below.refl _ _ | refine Below.setCell ?_ (by simp <;> omega) _ | refine Below.alloc ?_ (by simp <;> omega) _ | refine Below.drew ?_ | refine below_drewN ?_ _)))
 have b1 : Box w1 w.heap.size 30 #[.slice A n c, .slice E m e] := by rw [← hwn]; exact (Box.new _ _ _ rfl).alloc _
 have b2 : Box w1 (w.heap.size + 1) 33 #[.slice none 0 0, .slice none 0 0, .slice none 0 0, .int .i64 0] := by rw [← hwn]; exact Box.new _ _ _ (by simp)
 clear hwn
 obtain ⟨g2, hg2⟩ : ∃ g, g = w.heap.size + 1 := ⟨_, rfl⟩
 have l2 : w.heap.size < g2 := by omega
 rw [← hg2] at b2 ⊢
 clear hg2
 obtain ⟨g1, hg1⟩ : ∃ g, g = w.heap.size := ⟨_, rfl⟩
 have l1 : w.heap.size ≤ g1 := by omega
 rw [show Box w1 w.heap.size 30 #[.slice A n c, .slice E m e] ↔ Box w1 g1 30 #[.slice A n c, .slice E m e] by rw [hg1]] at b1
 rw [← hg1]
 rw [← hg1] at l2
 clear hg1
 have h := h.ext hx
 have hbase := Nat.le_trans hbase hx.size
 obtain ⟨b1_0, b1_1⟩ := b1.c2
 have b1_z := b1.free
 have b1_l := b1.lt
 go_wp2_with fail
 refine (refKeep_v (T := tS) (k := 0) tDS hbase h HF.out.ok HF.out.inn).mono ?_
 rintro e2 w2 ⟨v2, rfl, d2, he⟩
 try clear b1_0 b1_1 b1_z b1_l
 have hx := ext_trans hx he
 have b1 := b1.ext he
 have b2 := b2.ext he
 clear he
 clear h hbase
 obtain ⟨A2, n2, c2, E2, m2, e2, rfl, _, _, _, _, _, _⟩ := d2.form
 have HM := Lib.hid (HF.out.keep 0)
 have k1 := b1.kd
 obtain ⟨b1_0, b1_1⟩ := b1.c2
 have b1_z := b1.free
 have b1_l := b1.lt
 go_upto_region 2 with (fail)
 try clear b1_0 b1_1 b1_z b1_l
 generalize hwn : World.setCell (World.setCell w2 _ _) _ _ = w3
 have b2 : Box w3 g2 33 #[.slice none 0 0, .slice none 0 0, .slice none 0 0, .int .i64 0] := by rw [← hwn]; (repeat (with_reducible (first | assumption | refine Box.alloc ?_ _ | refine Box.setOther ?_ (by simp <;> omega) _)))
 have d2 : DskV tS w3 base (.agg #[.slice A2 n2 c2, .slice E2 m2 e2]) (dKeep d 0) := d2.kept (by rw [← hwn]; (repeat (with_reducible (first | assumption | exact Kept.refl _ _ _ | (apply Kept.setK; rotate_left; (repeat (first | assumption | apply Kd.set | apply Kd.alloc | apply Kd.drew)); decide; omega) | refine Kept.allocK ?_ _ | refine Kept.drewK ?_))))
 have hx : Ext w w3 := by rw [← hwn]; (repeat (with_reducible (first | assumption | exact Below.refl _ _ | refine Below.setCell ?_ (by simp <;> omega) _ | refine Below.alloc ?_ (by simp <;> omega) _ | refine Below.drew ?_ | refine below_drewN ?_ _)))
 have b1 : Box w3 g1 30 #[.slice A2 n2 c2, .slice E2 m2 e2] := by rw [← hwn]; exact (b1.set 0 _).set 1 _
 clear hwn k1
 have he : Ext w3 w3.drew := (Below.refl _ _).drew
 have hx := ext_trans hx he
 have d2 := d2.ext he
 have b1 := b1.ext he
 have b2 := b2.ext he
 clear he
 refine wp_region_ue 5 [] [0, 1, 3] rfl (by kernel_rfl) (by kernel_rfl) ?_
 generalize w3.drew = D at hx d2 b1 b2 ⊢
 apply uF 0 (by kernel_rfl) (by rfl) (by rfl) (by rfl)
 ·(intro w' hx; obtain ⟨x0, x1⟩ := (b1.ext hx).c2; go_simp <;> with_reducible rfl)
 simp only [pA, pB, pC, pD]
 apply uF 1 (by kernel_rfl) (by rfl) (by rfl) (by rfl)
 ·(intro w' hx; obtain ⟨x0, x1⟩ := (b1.ext hx).c2; go_simp <;> with_reducible rfl)
 simp only [pA, pB, pC, pD]
 refine uS 2 (by kernel_rfl) (by kernel_rfl) (by rfl) (by rfl) (fun K hK => ?_)
 go_wp2_with (go_at_call 43; refine (refScan_v d2 HM.out.ok).mono ?_; rintro e w3 ⟨v3, rfl, o3, he⟩)
 refine hK.out _ _ (he) ?_
 clear hK K
 try simp only [pA, pB, pC, pD]
 have r3 := o3.row (T := tS) (base := 0) (base' := base) (by decide) (Nat.zero_le _)
 clear o3 b1
 obtain ⟨A3, n3, c3, rfl, _, _, _⟩ := r3.form
 have hx := ext_trans hx he
 have b2 := b2.ext he
 have d2 := d2.ext he
 clear he
 apply uF 3 (by kernel_rfl) (by rfl) (by rfl) (by rfl)
 ·(intro w' hx; go_simp <;> with_reducible rfl)
 simp only [pA, pB, pC, pD]
 refine uL 4 (by kernel_rfl) (by kernel_rfl) (by kernel_rfl) (by rfl) (by rfl) (fun K hK => ?_)
 have hK' := Lib.hid hK
 clear hK
 have k2 := b2.kd
 obtain ⟨b2_0, b2_1, b2_2, b2_3⟩ := b2.c4
 have b2_z := b2.free
 have b2_l := b2.lt
 go_wp2
 refine hK'.out _ _ ?_
 clear hK' K
 refine uEnd (by kernel_rfl) ?_
 go_wp2_with fail
 ((try simp only [Exit.inBlock, Exit.then]); refine bodyPost_ret (v := ?_) ?resultOf rfl ?_; case resultOf => (rw [results_cell1 rfl]; go_simp; rfl))
 try clear b2_0 b2_1 b2_2 b2_3 b2_z b2_l
 refine ⟨_, rfl, ?_, by (repeat (with_reducible (first | assumption | exact Below.refl _ _ | refine Below.setCell ?_ (by simp <;> omega) _ | refine Below.alloc ?_ (by simp <;> omega) _ | refine Below.drew ?_ | refine below_drewN ?_ _)))⟩
 exact StoV.mk (d2.kept (by (repeat (with_reducible (first | assumption | exact Kept.refl _ _ _ | (apply Kept.setK; rotate_left; (repeat (first | assumption | apply Kd.set | apply Kd.alloc | apply Kd.drew)); decide; omega) | refine Kept.allocK ?_ _ | refine Kept.drewK ?_))))) (r3.kept (by (repeat (with_reducible (first | assumption | exact Kept.refl _ _ _ | (apply Kept.setK; rotate_left; (repeat (first | assumption | apply Kd.set | apply Kd.alloc | apply Kd.drew)); decide; omega) | refine Kept.allocK ?_ _ | refine Kept.drewK ?_))))) rfl
set_option maxRecDepth 100000 in
set_option maxHeartbeats 4000000 in
theorem refStoNew_v (w : World) : Calls Tryz.prog 15 #[] w fun e w' => ∃ v', e = .returned v' ∧ StoV tS w' 0 v' sNew ∧ Ext w w' := by
 go_enter Tryz.func15, Tryz.ntmps15
 go_upto_region 1 with (fail)
 generalize hwn : World.alloc w _ = w1
 have hx : Ext w w1 := by rw [← hwn]; (repeat (with_reducible (first | assumption | exact Below.refl _ _ | refine Below.setCell ?_ (by simp <;> omega) _ | refine Below.alloc ?_ (by simp <;> omega) _ | refine Below.drew ?_ | refine below_drewN ?_ _)))
 have b0 : Box w1 w.heap.size 33 #[.slice none 0 0, .slice none 0 0, .slice none 0 0, .int .i64 0] := by rw [← hwn]; exact Box.new _ _ _ rfl
 clear hwn
 obtain ⟨g0, hg0⟩ : ∃ g, g = w.heap.size := ⟨_, rfl⟩
 have l0 : w.heap.size ≤ g0 := by omega
 rw [show Box w1 w.heap.size 33 #[.slice none 0 0, .slice none 0 0, .slice none 0 0, .int .i64 0] ↔ Box w1 g0 33 #[.slice none 0 0, .slice none 0 0, .slice none 0 0, .int .i64 0] by rw [hg0]] at b0
 rw [← hg0]
 clear hg0
 go_wp2_with fail
 refine (refNew_v _).mono ?_
 rintro e2 w2 ⟨v2, rfl, o2, he⟩
 have hx := ext_trans hx he
 have b0 := b0.ext he
 clear he
 have d2 := o2.v.sub tDS (Nat.le_refl _)
 clear o2
 go_wp2_with fail
 refine (refMount_v (Nat.zero_le _) d2 free_fine).mono ?_
 rintro e3 w3 ⟨v3, rfl, s3, he⟩
 have hx := ext_trans hx he
 have b0 := b0.ext he
 clear he
 obtain ⟨A3, n3, c3, E3, m3, e3, F3, k3, f3, rfl, d3, i3, _, _, _, _, _, _⟩ := s3.form
 have k0 := b0.kd
 have HSN := Lib.hid (show (sMount dFree).next = 0 from rfl)
 rw [HSN.out]
 obtain ⟨b0_0, b0_1, b0_2, b0_3⟩ := b0.c4
 have b0_z := b0.free
 have b0_l := b0.lt
 go_wp2_with fail
 ((try simp only [Exit.inBlock, Exit.then]); refine bodyPost_ret (v := ?_) ?resultOf rfl ?_; case resultOf => (rw [results_cell1 rfl]; go_simp; rfl))
 try clear b0_0 b0_1 b0_2 b0_3 b0_z b0_l
 refine ⟨_, rfl, ?_, by (repeat (with_reducible (first | assumption | exact Below.refl _ _ | refine Below.setCell ?_ (by simp <;> omega) _ | refine Below.alloc ?_ (by simp <;> omega) _ | refine Below.drew ?_ | refine below_drewN ?_ _)))⟩
 exact StoV.mk (d3.kept (by (repeat (with_reducible (first | assumption | exact Kept.refl _ _ _ | (apply Kept.setK; rotate_left; (repeat (first | assumption | apply Kd.set | apply Kd.alloc | apply Kd.drew)); decide; omega) | refine Kept.allocK ?_ _ | refine Kept.drewK ?_))))) (i3.kept (by (repeat (with_reducible (first | assumption | exact Kept.refl _ _ _ | (apply Kept.setK; rotate_left; (repeat (first | assumption | apply Kd.set | apply Kd.alloc | apply Kd.drew)); decide; omega) | refine Kept.allocK ?_ _ | refine Kept.drewK ?_))))) rfl
set_option maxRecDepth 100000 in
set_option maxHeartbeats 4000000 in
theorem sameStore_v {T T' : List TypeId} {base base' : Nat} {v v' : Value} {s : Sto} {w : World} (h : StoV T w base v s) (h' : StoV T' w base' v' s) :
  Calls Tryz.prog 13 #[v, v'] w fun e w' => e = .returned (.bool true) ∧ Ext w w' := by
 obtain ⟨A, n, c, E, m, e, F, k, f, rfl, hd, hi, _, _, _, _, _, _⟩ := h.form
 obtain ⟨A', n', c', E', m', e', F', k', f', rfl, hd', hi', _, _, _, _, _, _⟩ := h'.form
 clear h h'
 go_enter Tryz.func13, Tryz.ntmps13
 go_upto_region 1 with (fail)
 generalize hwn : World.alloc (World.alloc w _) _ = w1
 have hx : Ext w w1 := by rw [← hwn]; (repeat (with_reducible (first | assumption | exact Below.refl _ _ | refine Below.setCell ?_ (by simp <;> omega) _ | refine Below.alloc ?_ (by simp <;> omega) _ | refine Below.drew ?_ | refine below_drewN ?_ _)))
 have b2 : Box w1 w.heap.size 33 #[.slice A n c, .slice E m e, .slice F k f, .int .i64 s.next] := by rw [← hwn]; exact (Box.new _ _ _ rfl).alloc _
 have b3 : Box w1 (w.heap.size + 1) 33 #[.slice A' n' c', .slice E' m' e', .slice F' k' f', .int .i64 s.next] := by rw [← hwn]; exact Box.new _ _ _ (by simp)
 clear hwn
 obtain ⟨g3, hg3⟩ : ∃ g, g = w.heap.size + 1 := ⟨_, rfl⟩
 rw [← hg3] at b3 ⊢
 clear hg3
 have hd := hd.ext hx
 have hd' := hd'.ext hx
 have hi := hi.ext hx
 have hi' := hi'.ext hx
 obtain ⟨b2_0, b2_1, b2_2, b2_3⟩ := b2.c4
 have b2_z := b2.free
 have b2_l := b2.lt
 obtain ⟨b3_0, b3_1, b3_2, b3_3⟩ := b3.c4
 have b3_z := b3.free
 have b3_l := b3.lt
 go_wp2_with fail
 refine (sameDisk_v hd hd').mono ?_
 rintro e2 w2 ⟨rfl, he⟩
 try clear b2_0 b2_1 b2_2 b2_3 b2_z b2_l b3_0 b3_1 b3_2 b3_3 b3_z b3_l
 have hx := ext_trans hx he
 have hi := hi.ext he
 have hi' := hi'.ext he
 have b2 := b2.ext he
 have b3 := b3.ext he
 clear he
 rw [dSame_id]
 obtain ⟨b2_0, b2_1, b2_2, b2_3⟩ := b2.c4
 have b2_z := b2.free
 have b2_l := b2.lt
 obtain ⟨b3_0, b3_1, b3_2, b3_3⟩ := b3.c4
 have b3_z := b3.free
 have b3_l := b3.lt
 go_wp2_with fail
 refine (sameEnts_v hi hi').mono ?_
 rintro e4 w4 ⟨rfl, he⟩
 try clear b2_0 b2_1 b2_2 b2_3 b2_z b2_l b3_0 b3_1 b3_2 b3_3 b3_z b3_l
 have hx := ext_trans hx he
 have b2 := b2.ext he
 have b3 := b3.ext he
 clear he
 rw [esSame_id]
 have q : (s.next == s.next) = true := by simp
 obtain ⟨b2_0, b2_1, b2_2, b2_3⟩ := b2.c4
 have b2_z := b2.free
 have b2_l := b2.lt
 obtain ⟨b3_0, b3_1, b3_2, b3_3⟩ := b3.c4
 have b3_z := b3.free
 have b3_l := b3.lt
 go_wp2_with fail
 go_ret
 exact ⟨rfl, hx⟩
end Go.Proofs.YtmcgbdbhpnplmaaGreat
