/- Walks: disk.Put. -/
import Derived.Test.YtnganglmpcbcbaaKit2
namespace Go.Proofs.Ytnganglmpcbcbaa
open Go Go.RowKit

set_option maxRecDepth 100000 in
set_option maxHeartbeats 4000000 in
theorem dskPut_v {T : List TypeId} {base base' : Nat} {v u : Value} {d : Dsk} {k : Int} {l : List UInt8} {w : World} (h : DskV T w base v d) (hk : DskOk d) (hf : ByT w base' u l) :
    Calls Try.prog 49 #[v, .int .i64 k, u] w fun e w' => ∃ v' q, e = .returned (.tuple #[v', .int .i64 q]) ∧ q = (dPut d k l).2 ∧ OwnD w w' v' (dPut d k l).1 ∧ Ext w w' := by
  have Hk := Lib.hid hk
  obtain ⟨F, c2, rfl, hf1⟩ := hf.by_
  obtain ⟨A, c, E, m, rfl, h0⟩ := h.at_
  clear h hf
  obtain ⟨n2, hN2⟩ : ∃ n, n = l.length := ⟨_, rfl⟩
  obtain ⟨n, hN⟩ : ∃ n, n = d.blocks.length := ⟨_, rfl⟩
  obtain ⟨e, hE⟩ : ∃ n, n = d.late.length := ⟨_, rfl⟩
  rw [← hN2] at hf1 ⊢
  rw [← hN, ← hE] at h0 ⊢
  have HN := Lib.hid hN
  have HN2 := Lib.hid hN2
  have HE := Lib.hid hE
  have he4 : e ≤ 4096 := by have := hk.late; omega
  have hp : ∀ v, dPut d k l = v → Hid (dPut d k l = v) := fun _ h => h
  clear hN hN2 hE hk
  go_enter Try.func49, Try.ntmps49
  go_wp2_with fail
  obtain ⟨W, hW⟩ : ∃ W, W = (w.alloc (.cells #[.slice A n c, .slice E e m] 46)).alloc (.cells #[.slice none 0 0, .slice none 0 0] 46) := ⟨_, rfl⟩
  rw [← hW]
  have bp : Box W w.heap.size 46 #[.slice A n c, .slice E e m] := by rw [hW]; exact (Box.new w _ _ rfl).alloc _
  have bR : Box W (w.heap.size + 1) 46 #[.slice none 0 0, .slice none 0 0] := by rw [hW]; exact Box.new _ _ _ (size_alloc _ _).symm
  have hwW : Ext w W := by rw [hW]; exact ext_trans (ext_alloc _ _) (ext_alloc _ _)
  have hzW : W.heap.size = w.heap.size + 2 := by rw [hW]; simp
  clear hW
  refine (dskOwn_v (T := []) (DskV.of_at (h0.below (hwW.mono (Nat.le_refl _))) (Nat.le_refl _) (by omega)) Hk.out).mono ?_
  rintro e0 w1 ⟨_, rfl, ⟨vb, vl, rfl, hob, hol⟩, he1⟩
  obtain ⟨A1, c1, hvb⟩ := hob.shape
  obtain ⟨A2, c3, hvl⟩ := hol.shape
  rw [← HN.out] at hvb
  rw [← HE.out] at hvl
  subst hvb hvl
  have hz1 := he1.size
  have hlt0 : w.heap.size < w1.heap.size := by omega
  have hlt1 : w.heap.size + 1 < w1.heap.size := by omega
  have bp1 := bp.ext he1
  have bR1 := bR.ext he1
  obtain ⟨m0, m1⟩ := bp1.cells2
  obtain ⟨r0, r1⟩ := bR1.cells2
  have zR := bR1.free
  have kR := bR1.kd
  have hww : Ext w w1 := ext_trans hwW he1
  clear bp bR
  by_cases hlo : k < 0 ∨ (n : Int) ≤ k
  · have HP := hp (d, 3) (by unfold dPut; rw [if_pos (by rw [← HN.out]; exact hlo)])
    have hk1 : k < 0 ∨ (¬ k < 0 ∧ (n : Int) ≤ k) := by omega
    rcases hk1 with hk1 | ⟨hk1, hk2⟩
    · have q1 : decide (k < 0) = true := by simpa using hk1
      clear hlo hk1
      go_wp2
      ((try simp only [Exit.inBlock, Exit.then]); refine bodyPost_ret (v := ?_) ?resultOf rfl ?_; case resultOf => (rw [results_cell_tmp rfl]; go_simp; rfl))
      rw [HP.out]
      refine ⟨_, _, rfl, rfl, ⟨_, _, rfl, (hob.kB (by (repeat (with_reducible (first | assumption | exact Kept.refl _ _ _ | (apply Kept.setK; rotate_left; (repeat (first | assumption | apply Kd.set | apply Kd.alloc | apply Kd.drew)); decide; omega) | refine Kept.allocK ?_ _ | refine Kept.drewK ?_))))).more (by omega) (Nat.le_refl _), (hol.kW (by (repeat (with_reducible (first | assumption | exact Kept.refl _ _ _ | (apply Kept.setK; rotate_left; (repeat (first | assumption | apply Kd.set | apply Kd.alloc | apply Kd.drew)); decide; omega) | refine Kept.allocK ?_ _ | refine Kept.drewK ?_))))).more (by omega) (Nat.le_refl _)⟩, ?_⟩
      (repeat (with_reducible (first | assumption | exact Below.refl _ _ | refine Below.setCell ?_ (by simp <;> omega) _ | refine Below.alloc ?_ (by simp <;> omega) _ | refine Below.drew ?_ | refine below_drewN ?_ _)))
    · have q1 : decide (k < 0) = false := by simpa using hk1
      have q2 : decide ((n : Int) ≤ k) = true := by simpa using hk2
      clear hlo hk1
      go_wp2
      ((try simp only [Exit.inBlock, Exit.then]); refine bodyPost_ret (v := ?_) ?resultOf rfl ?_; case resultOf => (rw [results_cell_tmp rfl]; go_simp; rfl))
      rw [HP.out]
      refine ⟨_, _, rfl, rfl, ⟨_, _, rfl, (hob.kB (by (repeat (with_reducible (first | assumption | exact Kept.refl _ _ _ | (apply Kept.setK; rotate_left; (repeat (first | assumption | apply Kd.set | apply Kd.alloc | apply Kd.drew)); decide; omega) | refine Kept.allocK ?_ _ | refine Kept.drewK ?_))))).more (by omega) (Nat.le_refl _), (hol.kW (by (repeat (with_reducible (first | assumption | exact Kept.refl _ _ _ | (apply Kept.setK; rotate_left; (repeat (first | assumption | apply Kd.set | apply Kd.alloc | apply Kd.drew)); decide; omega) | refine Kept.allocK ?_ _ | refine Kept.drewK ?_))))).more (by omega) (Nat.le_refl _)⟩, ?_⟩
      (repeat (with_reducible (first | assumption | exact Below.refl _ _ | refine Below.setCell ?_ (by simp <;> omega) _ | refine Below.alloc ?_ (by simp <;> omega) _ | refine Below.drew ?_ | refine below_drewN ?_ _)))
  · have q1 : decide (k < 0) = false := by simp; omega
    have q2 : decide ((n : Int) ≤ k) = false := by simp; omega
    by_cases h16 : n2 = 16
    · have HP := hp (⟨d.blocks, d.late ++ [(k, l)]⟩, 0) (by unfold dPut; rw [if_neg (by rw [← HN.out]; exact hlo), if_neg (by rw [← HN2.out]; simpa using h16)])
      clear hlo
      subst h16
      go_wp2_with fail
      obtain ⟨w2, hw2⟩ : ∃ w2, w2 = w1.alloc (.cells #[.slice A1 n c1, .slice A2 e c3] 46) := ⟨_, rfl⟩
      rw [← hw2]
      have b8_ : Box w2 w1.heap.size 46 #[.slice A1 n c1, .slice A2 e c3] := by rw [hw2]; exact Box.new _ _ _ rfl
      have he2 : Ext w1 w2 := by rw [hw2]; exact ext_alloc _ _
      have hz2 : w2.heap.size = w1.heap.size + 1 := by rw [hw2]; simp
      clear hw2
      refine wp_region_keep W.heap.size [w1.heap.size] 10 [0, 1, 2, 3, 5, 8] true rfl (by kernel_rfl) (by kernel_rfl) ?_
      obtain ⟨D, hD⟩ : ∃ D, D = w2.drew := ⟨_, rfl⟩
      rw [← hD]
      have bD : Box D w1.heap.size 46 #[.slice A1 n c1, .slice A2 e c3] := by rw [hD]; exact b8_
      have hwD : Ext w1 D := by rw [hD]; exact he2.drew
      have hzD : D.heap.size = w1.heap.size + 1 := by rw [hD]; exact hz2
      clear hD he2 b8_ hz2
      have hobD := hob.ext hwD
      have holD := hol.ext hwD
      have hyD : By D w.heap.size F 16 c2 l := Sl.below hf1 (ext_trans hww hwD)
      have bRD := bR1.ext hwD
      apply mixF 0 (by kernel_rfl) (by rfl) (by rfl)
      · (intro w' hx; go_simp <;> with_reducible rfl)
      simp only [Act.put, List.setIfInBounds_toArray, List.set_cons_zero, List.set_cons_succ]
      apply mixF 1 (by kernel_rfl) (by rfl) (by rfl)
      · (intro w' hx; have q := (bD.xk hx (by simp)).cell 1 rfl; go_simp <;> with_reducible rfl)
      simp only [Act.put, List.setIfInBounds_toArray, List.set_cons_zero, List.set_cons_succ]
      apply mixF 2 (by kernel_rfl) (by rfl) (by rfl)
      · (intro w' hx; go_simp <;> with_reducible rfl)
      simp only [Act.put, List.setIfInBounds_toArray, List.set_cons_zero, List.set_cons_succ]
      apply mixF 3 (by kernel_rfl) (by rfl) (by rfl)
      · (intro w' hx; go_simp <;> with_reducible rfl)
      simp only [Act.put, List.setIfInBounds_toArray, List.set_cons_zero, List.set_cons_succ]
      refine mixS 4 (by kernel_rfl) (by kernel_rfl) (by rfl) (by rfl) (fun K hK => ?_)
      go_wp2_with (go_at_call 111; refine (clone_w _ hyD (by omega) (by rw [blim_def]; omega)).mono ?_; rintro e w3 ⟨v1, rfl, own1, he3⟩; obtain ⟨A3, c4, rfl, hs1⟩ := own_shape own1)
      refine hK.out _ _ (XK.ext he3 (by omega) (by simp; omega)) ?_
      clear hK K
      try simp only [Act.put, List.setIfInBounds_toArray, List.set_cons_zero, List.set_cons_succ]
      have hz3 := he3.size
      apply mixF 5 (by kernel_rfl) (by rfl) (by rfl)
      · (intro w' hx; go_simp <;> with_reducible rfl)
      simp only [Act.put, List.setIfInBounds_toArray, List.set_cons_zero, List.set_cons_succ]
      refine mixS 6 (by kernel_rfl) (by kernel_rfl) (by rfl) (by rfl) (fun K hK => ?_)
      go_wp2
      refine hK.out _ _ (XK.ext (ext_alloc _ _) (by omega) (by simp; omega)) ?_
      clear hK K
      try simp only [Act.put, List.setIfInBounds_toArray, List.set_cons_zero, List.set_cons_succ]
      obtain ⟨w4, hw4⟩ : ∃ w4, w4 = w3.alloc (.cells #[.int .i64 k, .slice A3 16 c4] 60) := ⟨_, rfl⟩
      rw [← hw4]
      have he4 : Ext w3 w4 := by rw [hw4]; exact ext_alloc _ _
      have hs4 : Sl w4 w4.heap.size 2 (some ⟨w3.heap.size, 0, none⟩) 1 1 [.int .i64 k, .slice A3 16 c4] := by rw [hw4]; exact Sl.new _ _ _ _ 2 1 rfl (by unfold maxLen; omega) (by simp)
      have hz4 := he4.size
      clear hw4
      have hD4 : Ext D w4 := ext_trans he3 he4
      have hol4 := holD.ext hD4
      have hob4 := hobD.ext hD4
      have b84 := bD.ext hD4
      have bR4 := bRD.ext hD4
      have hu4 : ByT w4 0 (.slice A3 16 c4) l := (ByT.of_own own1).kept (T := []) (.ext he4)
      refine mixS 7 (by kernel_rfl) (by kernel_rfl) (by rfl) (by rfl) (fun K hK => ?_)
      refine wpo_wr (.tmp 28) (.tmp 33) rfl rfl hol4 rfl hs4 (y := (k, l)) ⟨_, rfl, hu4⟩ (by rw [lim_def, ← HE.out]; omega) (by omega) (by omega) ?_
      intro v7 w7 own7 hg7 hb7
      obtain ⟨A7, n7, c7, rfl, _, _, _⟩ := own7.form
      have hne := own_ne hol4.choose_spec.2 b84.kd (by decide)
      have hneR := own_ne hol4.choose_spec.2 bR4.kd (by decide)
      have hneB := hob4.kept (T := [22]) (by decide) (Nat.le_refl _) (Kept.app hol4.choose_spec.2 hg7 (by decide) (by omega))
      refine hK.out _ _ (XK.grown hg7 hb7 (by simp; exact ⟨by omega, hne⟩)) ?_
      clear hK K
      try simp only [Act.put, List.setIfInBounds_toArray, List.set_cons_zero, List.set_cons_succ]
      have b87 : Box w7 w1.heap.size 46 _ := (hg7.block _ b84.lt hne).trans b84
      have bR7 : Box w7 (w.heap.size + 1) 46 _ := (hg7.block _ bR4.lt hneR).trans bR4
      have n0 := b87.cell 0 rfl
      have n1 := b87.cell 1 rfl
      have zn := b87.free
      have p0 := bR7.cell 0 rfl
      have p1 := bR7.cell 1 rfl
      have zp := bR7.free
      have k8 := b87.kd
      have kR7 := bR7.kd
      have hx7 : Ext w w7 := (ext_trans hww (ext_trans hwD hD4)).trans (hb7.mono (by omega))
      apply mixF 8 (by kernel_rfl) (by rfl) (by rfl)
      · (intro w' hx; go_simp <;> with_reducible rfl)
      simp only [Act.put, List.setIfInBounds_toArray, List.set_cons_zero, List.set_cons_succ]
      refine mixLast 9 (by kernel_rfl) (by kernel_rfl) (by kernel_rfl) (by rfl) (by rfl) (fun K hK => ?_)
      have hK' := Lib.hid hK
      clear hK
      go_wp2
      refine hK'.out _ _ ?_
      clear hK' K
      refine NoPanic.normal ?_
      go_wp2
      ((try simp only [Exit.inBlock, Exit.then]); refine bodyPost_ret (v := ?_) ?resultOf rfl ?_; case resultOf => (rw [results_cell_tmp rfl]; go_simp; rfl))
      rw [HP.out]
      refine ⟨_, _, rfl, rfl, ⟨_, _, rfl, (hneB.kB (by (repeat (with_reducible (first | assumption | exact Kept.refl _ _ _ | (apply Kept.setK; rotate_left; (repeat (first | assumption | apply Kd.set | apply Kd.alloc | apply Kd.drew)); decide; omega) | refine Kept.allocK ?_ _ | refine Kept.drewK ?_))))).more (rb' := w.heap.size) (by omega) (Nat.le_refl _), (own7.kW (by (repeat (with_reducible (first | assumption | exact Kept.refl _ _ _ | (apply Kept.setK; rotate_left; (repeat (first | assumption | apply Kd.set | apply Kd.alloc | apply Kd.drew)); decide; omega) | refine Kept.allocK ?_ _ | refine Kept.drewK ?_))))).more (rb' := w.heap.size) (by omega) (Nat.le_refl _)⟩, ?_⟩
      (repeat (with_reducible (first | assumption | exact Below.refl _ _ | refine Below.setCell ?_ (by simp <;> omega) _ | refine Below.alloc ?_ (by simp <;> omega) _ | refine Below.drew ?_ | refine below_drewN ?_ _)))
    · have q3 : ((n2 : Int) != 16) = true := by rw [bne_iff_ne]; omega
      have HP := hp (d, 2) (by unfold dPut; rw [if_neg (by rw [← HN.out]; exact hlo), if_pos (by rw [← HN2.out]; exact h16)])
      clear hlo h16
      go_wp2
      ((try simp only [Exit.inBlock, Exit.then]); refine bodyPost_ret (v := ?_) ?resultOf rfl ?_; case resultOf => (rw [results_cell_tmp rfl]; go_simp; rfl))
      rw [HP.out]
      refine ⟨_, _, rfl, rfl, ⟨_, _, rfl, (hob.kB (by (repeat (with_reducible (first | assumption | exact Kept.refl _ _ _ | (apply Kept.setK; rotate_left; (repeat (first | assumption | apply Kd.set | apply Kd.alloc | apply Kd.drew)); decide; omega) | refine Kept.allocK ?_ _ | refine Kept.drewK ?_))))).more (by omega) (Nat.le_refl _), (hol.kW (by (repeat (with_reducible (first | assumption | exact Kept.refl _ _ _ | (apply Kept.setK; rotate_left; (repeat (first | assumption | apply Kd.set | apply Kd.alloc | apply Kd.drew)); decide; omega) | refine Kept.allocK ?_ _ | refine Kept.drewK ?_))))).more (by omega) (Nat.le_refl _)⟩, ?_⟩
      (repeat (with_reducible (first | assumption | exact Below.refl _ _ | refine Below.setCell ?_ (by simp <;> omega) _ | refine Below.alloc ?_ (by simp <;> omega) _ | refine Below.drew ?_ | refine below_drewN ?_ _)))

end Go.Proofs.Ytnganglmpcbcbaa
