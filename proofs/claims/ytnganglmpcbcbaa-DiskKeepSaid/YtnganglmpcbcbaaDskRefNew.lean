/- Walks: a new disk, the document's. -/
import Derived.Test.YtnganglmpcbcbaaDskNew
import Derived.Test.YtnganglmpcbcbaaRefBytes
namespace Go.Proofs.Ytnganglmpcbcbaa
open Go Go.RowKit

theorem free_w (w : World) : Calls Try.prog 113 #[] w fun e w' => e = .returned (.agg #[.int .i64 1, .int .i64 0, .int .i64 0, .slice none 0 0]) ∧ Ext w w' := by
  go_enter Try.func113, Try.ntmps113
  go_wp2
  ((try simp only [Exit.inBlock, Exit.then]); refine bodyPost_ret (v := ?_) ?resultOf rfl ?_; case resultOf => (rw [results_cell1 rfl]; go_simp; rfl))
  refine ⟨rfl, ?_⟩
  (repeat (with_reducible (first | assumption | exact Below.refl _ _ | refine Below.setCell ?_ (by simp <;> omega) _ | refine Below.alloc ?_ (by simp <;> omega) _ | refine Below.drew ?_ | refine below_drewN ?_ _)))

set_option maxRecDepth 100000 in
set_option maxHeartbeats 2000000 in
theorem refNew_w (w : World) : Calls Try.prog 47 #[] w fun e w' => ∃ v, e = .returned v ∧ OwnDsk w w' v dFree ∧ Ext w w' := by
  go_enter Try.func47, Try.ntmps47
  go_wp2_with fail
  obtain ⟨W, hW⟩ : ∃ W, W = (w.alloc (.cells #[.slice none 0 0, .slice none 0 0] 46)).alloc (.cells #[.slice none 0 0, .slice none 0 0] 46) := ⟨_, rfl⟩
  rw [← hW]
  have bR : Box W w.heap.size 46 #[.slice none 0 0, .slice none 0 0] := by rw [hW]; exact (Box.new w _ _ rfl).alloc _
  have bd : Box W (w.heap.size + 1) 46 #[.slice none 0 0, .slice none 0 0] := by rw [hW]; exact Box.new _ _ _ (size_alloc _ _).symm
  have hwW : Ext w W := by rw [hW]; exact ext_trans (ext_alloc _ _) (ext_alloc _ _)
  have hzW : W.heap.size = w.heap.size + 1 + 1 := by rw [hW]; simp
  clear hW
  go_loopw [4] (fun i wr => ∃ (k : Nat) (v : Value), k ≤ 12 ∧ i = .int .i64 k ∧ Box wr (w.heap.size + 1) 46 #[v, .slice none 0 0] ∧ OwnBlks wr (w.heap.size + 2) 0 v (((List.range 12).map fun i : Nat => rBytes rFree (i : Int)).take k) ∧ Below (w.heap.size + 1) W wr) (fun i _ => 12 - (intOf i).toNat)
  case atStart => exact ⟨0, _, by omega, rfl, bd, OwnBlks.nil _ _ _, Below.refl _ _⟩
  case round =>
    obtain ⟨k, v, hk, rfl, b7, hown, hd⟩ := hrel
    have bRr := bR.below hd (by omega)
    by_cases hlt : k < 12
    · have i1 : (k : Int) < 12 := by omega
      have hzr := hd.size
      obtain ⟨vs, ho, hv⟩ := hown
      have hlen : (((List.range 12).map fun i : Nat => rBytes rFree (i : Int)).take k).length = k := by simp; omega
      rw [hlen] at ho hv
      obtain ⟨Av, cv, rfl, hsv⟩ := own_shape ho
      go_wp2_with fail
      refine wp_region_below (w.heap.size + 1 + 1) 9 [0, 1, 3, 7] true rfl (by kernel_rfl) (by kernel_rfl) ?_
      obtain ⟨D, hD⟩ : ∃ D, D = wr.drew := ⟨_, rfl⟩
      rw [← hD]
      have bD : Box D (w.heap.size + 1) 46 #[.slice Av k cv, .slice none 0 0] := by rw [hD]; exact b7
      have hoD : D.ownsRow (w.heap.size + 2) 22 1 (.slice Av k cv) k vs := by rw [hD]; exact ho
      have hwD : Ext wr D := by rw [hD]; exact (Below.refl _ _).drew
      have hdD : Below (w.heap.size + 1) W D := hd.trans (hwD.mono (by omega))
      have hzD := hdD.size
      clear hD
      apply mixF 0 (by kernel_rfl) (by rfl) (by rfl)
      · (intro w' hx; go_simp <;> with_reducible rfl)
      simp only [Act.put, List.setIfInBounds_toArray, List.set_cons_zero, List.set_cons_succ]
      apply mixF 1 (by kernel_rfl) (by rfl) (by rfl)
      · (intro w' hx; have q := (bD.below hx (by omega)).cell 0 rfl; go_simp <;> with_reducible rfl)
      simp only [Act.put, List.setIfInBounds_toArray, List.set_cons_zero, List.set_cons_succ]
      apply mixF 3 (by kernel_rfl) (by rfl) (by rfl)
      · (intro w' hx; go_simp <;> with_reducible rfl)
      simp only [Act.put, List.setIfInBounds_toArray, List.set_cons_zero, List.set_cons_succ]
      refine mixS 2 (by kernel_rfl) (by kernel_rfl) (by rfl) (by rfl) (fun K hK => ?_)
      go_wp2_with (go_at_call 113; refine (free_w _).mono ?_; rintro e w1 ⟨rfl, he0⟩)
      refine hK.out _ _ (he0.mono (by omega)) ?_
      clear hK K
      try simp only [Act.put, List.setIfInBounds_toArray, List.set_cons_zero, List.set_cons_succ]
      have hz0 := he0.size
      obtain ⟨D', hD', hDD⟩ : ∃ D', D' = w1 ∧ Ext D D' := ⟨_, rfl, he0⟩
      rw [← hD']
      have bD := bD.ext hDD
      have hoD := own_ext hoD hDD
      have hwD := ext_trans hwD hDD
      have hdD := hdD.trans (hDD.mono (by omega))
      rw [← hD'] at hz0
      clear hD' he0 w1
      refine mixS 4 (by kernel_rfl) (by kernel_rfl) (by rfl) (by rfl) (fun K hK => ?_)
      go_wp2_with (go_at_call 41; refine (refBytes_w (r := rFree) (k := (k : Int)) (B := 0) _ (Sl.nil_ _ _ _) (Nat.zero_le _) (by omega) (by decide) (by decide)).mono ?_; rintro e w1 ⟨v1, rfl, own1, he1⟩; obtain ⟨A1, c1, rfl, hs1⟩ := own_shape own1)
      refine hK.out _ _ (he1.mono (by omega)) ?_
      clear hK K
      try simp only [Act.put, List.setIfInBounds_toArray, List.set_cons_zero, List.set_cons_succ]
      have hz1 := he1.size
      refine mixS 5 (by kernel_rfl) (by kernel_rfl) (by rfl) (by rfl) (fun K hK => ?_)
      go_wp2
      refine hK.out _ _ ((ext_alloc _ _).mono (by omega)) ?_
      clear hK K
      try simp only [Act.put, List.setIfInBounds_toArray, List.set_cons_zero, List.set_cons_succ]
      obtain ⟨w4, hw4⟩ : ∃ w4, w4 = w1.alloc (.cells #[.slice A1 16 c1] 22) := ⟨_, rfl⟩
      rw [← hw4]
      have he4 : Ext w1 w4 := by rw [hw4]; exact ext_alloc _ _
      have hs4 : Sl w4 w4.heap.size 1 (some ⟨w1.heap.size, 0, none⟩) 1 1 [.slice A1 16 c1] := by rw [hw4]; exact Sl.new _ _ _ _ 1 1 rfl (by unfold maxLen; omega) (by simp)
      have hz4 := he4.size
      clear hw4
      have ho4 := own_ext (own_ext hoD he1) he4
      have hv4 := fun i hi => (((hv i hi).ext hwD).ext he1).ext he4
      have hu4 : ByE w4 0 (.slice A1 16 c1) (rBytes rFree (k : Int)) := (ByE.of_own (own_more own1 (by omega))).ext he4
      refine mixS 6 (by kernel_rfl) (by kernel_rfl) (by rfl) (by rfl) (fun K hK => ?_)
      refine wp_app_blk (.tmp 8) (.tmp 12) rfl (w.heap.size + 2) (.slice Av k cv) k _ rfl ho4 _ _ 1 1 [.slice A1 16 c1] rfl hs4 (by simp [Value.oneCell']) (by rw [lim_def]; omega) (by omega) ?_
      intro v7 w7 own7 hg7 hb7 hat7
      refine hK.out _ _ hb7 ?_
      clear hK K hat7
      try simp only [Act.put, List.setIfInBounds_toArray, List.set_cons_zero, List.set_cons_succ]
      have hown7 := OwnBlks.snoc (rb := w.heap.size + 2) (base := 0) (by omega) (bs := ((List.range 12).map fun i : Nat => rBytes rFree (i : Int)).take k) (b := rBytes rFree (k : Int)) (by rw [hlen]; exact ho4) (by rw [hlen]; exact hv4) hu4 (by rw [hlen]; exact own7) hg7
      rw [← range_take k hlt] at hown7
      have hd7 : Below (w.heap.size + 1) W w7 := hdD.trans ((he1.mono (by omega)).trans ((he4.mono (by omega)).trans (hb7.mono (by omega))))
      have b8_ := bD.below ((he1.mono (B' := w.heap.size + 2) (by omega)).trans ((he4.mono (by omega)).trans hb7)) (by omega)
      have n0 := b8_.cell 0 rfl
      have n1 := b8_.cell 1 rfl
      have zn := b8_.free
      apply mixF 7 (by kernel_rfl) (by rfl) (by rfl)
      · (intro w' hx; go_simp <;> with_reducible rfl)
      simp only [Act.put, List.setIfInBounds_toArray, List.set_cons_zero, List.set_cons_succ]
      obtain ⟨A7, c7, rfl, _⟩ := own_shape own7
      refine mixLast 8 (by kernel_rfl) (by kernel_rfl) (by kernel_rfl) (by rfl) (by rfl) (fun K hK => ?_)
      have hK' := Lib.hid hK
      clear hK
      go_wp2
      refine hK'.out _ _ ?_
      clear hK' K n0 n1 zn b7 bD
      refine NoPanic.normal ?_
      go_wp2
      go_roundw
      case rel =>
        exact ⟨k + 1, _, by omega, by go_num, b8_.set 0 _, hown7.set b8_ (by decide) (by decide) (by omega) 0 _, hd7.setCell (Nat.le_refl _) _⟩
      case measure => simp [intOf]; omega
    · have hk12 : k = 12 := by omega
      subst hk12
      rw [List.take_of_length_le (by simp)] at hown
      obtain ⟨Av, cv, rfl, hsv⟩ := hown.shape
      have n0 := b7.cell 0 rfl
      have n1 := b7.cell 1 rfl
      have r0 := bRr.cell 0 rfl
      have r1 := bRr.cell 1 rfl
      have zr := bRr.free
      go_wp2
      ((try simp only [Exit.inBlock, Exit.then]); refine bodyPost_ret (v := ?_) ?resultOf rfl ?_; case resultOf => (rw [results_cell1 rfl]; go_simp; rfl))
      have hdd := hwW.trans (hd.mono (by omega))
      refine ⟨_, rfl, ⟨_, _, rfl, ?_, OwnLats.nil _ _ _⟩, (hdd.setCell (Nat.le_refl _) _).setCell (Nat.le_refl _) _⟩
      exact ((hown.set bRr (by decide) (by decide) (Nat.zero_le _) 0 _).set (bRr.set 0 _) (by decide) (by decide) (Nat.zero_le _) 1 _).more (by omega)

end Go.Proofs.Ytnganglmpcbcbaa
