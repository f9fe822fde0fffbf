/- Walks: the document's PutBlock. -/
import Derived.Test.YtnganglmpcbcbaaKit4
import Derived.Deep.Cut
import Derived.Deep.CutRange
namespace Go.Proofs.Ytnganglmpcbcbaa
open Go Go.RowKit

set_option maxRecDepth 100000 in
set_option maxHeartbeats 4000000 in
theorem refPut_v {T : List TypeId} {base : Nat} {v u : Value} {d : Dsk} {k : Int} {l : List UInt8} {w : World} (hT : tD ⊆ T) (hbase : base ≤ w.heap.size) (h : DskV T w base v d) (hk : DskOk d) (hu : ByT w base u l) :
    Calls Try.prog 50 #[v, .int .i64 k, u] w fun e w' => ∃ v' q, e = .returned (.tuple #[v', .int .i64 q]) ∧ q = (dPut d k l).2 ∧ DskV T w' base v' (dPut d k l).1 ∧ Ext w w' := by
  obtain ⟨A, n, c, E, e, m, rfl, HN, HE, hb, hl, hnc, hem⟩ := h.form
  obtain ⟨F, n2, c2, rfl, _, HN2⟩ := hu.form
  have he4 : e ≤ 4096 := by have := hk.late; have := HE.out; omega
  have hp : ∀ v, dPut d k l = v → Hid (dPut d k l = v) := fun _ h => h
  have HT := Lib.hid hT
  clear hk h hT
  go_enter Try.func50, Try.ntmps50
  by_cases hlo : k < 0 ∨ (n : Int) ≤ k
  · have HP := hp (d, 3) (by unfold dPut; rw [if_pos (by rw [← HN.out]; exact hlo)])
    have hk1 : k < 0 ∨ (¬ k < 0 ∧ (n : Int) ≤ k) := by omega
    rcases hk1 with hk1 | ⟨hk1, hk2⟩
    · have q1 : decide (k < 0) = true := by simpa using hk1
      clear hlo hk1
      go_wp2
      ((try simp only [Exit.inBlock, Exit.then]); refine bodyPost_ret (v := ?_) ?resultOf rfl ?_; case resultOf => (rw [results_cell_tmp rfl]; go_simp; rfl))
      rw [HP.out]
      refine and_ext (by (repeat (with_reducible (first | assumption | exact Below.refl _ _ | refine Below.setCell ?_ (by simp <;> omega) _ | refine Below.alloc ?_ (by simp <;> omega) _ | refine Below.drew ?_ | refine below_drewN ?_ _)))) fun hx => ⟨_, _, rfl, rfl, ⟨_, _, rfl, hb.ext hx, hl.ext hx⟩⟩
    · have q1 : decide (k < 0) = false := by simpa using hk1
      have q2 : decide ((n : Int) ≤ k) = true := by simpa using hk2
      clear hlo hk1
      go_wp2
      ((try simp only [Exit.inBlock, Exit.then]); refine bodyPost_ret (v := ?_) ?resultOf rfl ?_; case resultOf => (rw [results_cell_tmp rfl]; go_simp; rfl))
      rw [HP.out]
      refine and_ext (by (repeat (with_reducible (first | assumption | exact Below.refl _ _ | refine Below.setCell ?_ (by simp <;> omega) _ | refine Below.alloc ?_ (by simp <;> omega) _ | refine Below.drew ?_ | refine below_drewN ?_ _)))) fun hx => ⟨_, _, rfl, rfl, ⟨_, _, rfl, hb.ext hx, hl.ext hx⟩⟩
  · have q1 : decide (k < 0) = false := by simp; omega
    have q2 : decide ((n : Int) ≤ k) = false := by simp; omega
    by_cases h16 : n2 = 16
    · have HP := hp (⟨d.blocks, d.late ++ [(k, l)]⟩, 0) (by unfold dPut; rw [if_neg (by rw [← HN.out]; exact hlo), if_neg (by rw [← HN2.out]; simpa using h16)])
      clear hlo
      subst h16
      go_upto_region 5 with (fail)
      obtain ⟨W, hW⟩ : ∃ W, W = (w.alloc (.cells #[.slice A n c, .slice E e m] 46)).alloc (.cells #[.slice none 0 0, .slice none 0 0] 46) := ⟨_, rfl⟩
      rw [← hW]
      have bp : Box W w.heap.size 46 #[.slice A n c, .slice E e m] := by rw [hW]; exact (Box.new w _ _ rfl).alloc _
      have bR : Box W (w.heap.size + 1) 46 #[.slice none 0 0, .slice none 0 0] := by rw [hW]; exact Box.new _ _ _ (size_alloc _ _).symm
      have hwW : Ext w W := by rw [hW]; exact ext_trans (ext_alloc _ _) (ext_alloc _ _)
      have hzW : W.heap.size = w.heap.size + 2 := by rw [hW]; simp
      clear hW
      obtain ⟨m0, m1⟩ := bp.cells2
      have hl0 : Row eWr T (W.alloc (.cells #[] eWr.ty)) base (.slice E e m) d.late := hl.ext (ext_trans hwW (ext_alloc _ _))
      have hlt0 : w.heap.size < W.heap.size := by omega
      have ho0 := OwnRow.empty eWr W (base := base) (Nat.le_refl _)
      rw [hzW] at ho0
      have hA1 : Hid (([] : List (Int × List UInt8)).length + d.late.length ≤ lim) := by show _ ≤ _; have := HE.out; rw [lim_def]; simp only [List.length_nil]; omega
      have hA2 : d.late.length + 1 ≤ lim := by have := HE.out; rw [lim_def]; omega
      have hA3 : w.heap.size + 2 ≤ (W.alloc (.cells #[] eWr.ty)).heap.size := by rw [size_alloc]; omega
      go_wp2_with (first
        | (at_builtin; go_loud (refine wpal_wr rfl (.tmp 22) (.tmp 24) rfl rfl ho0 rfl hl0 hA1.out hA3 (by omega) ?_; intro v1 w1 own1 hg1 hb1; have bp1 := (bp.ext (ext_alloc _ _)).below hb1 (by omega); have bR1 := (bR.ext (ext_alloc _ _)).below hb1 (by omega); obtain ⟨x0, x1⟩ := bp1.cells2; obtain ⟨y0, y1⟩ := bR1.cells2; have zp := bp1.free; have zr := bR1.free; have hz1 := hb1.size; rw [size_alloc] at hz1; have hg0 : w.heap.size < w1.heap.size := (by omega); have hx1 : Ext w w1 := (ext_trans hwW (ext_alloc _ _)).trans (hb1.mono (by omega)); have hx2 := fun o => ext_trans hx1 (ext_alloc w1 o); have hg9 : w.heap.size + 1 < w1.heap.size := (by omega); simp only [List.nil_append] at own1))
        | (at_builtin; go_loud (refine wpl_wr rfl (.tmp 25) (.tmp 29) rfl rfl (own1.ext (ext_alloc _ _)) rfl (Sl.new _ _ _ _ 2 1 rfl (by unfold maxLen; omega) (Nat.lt_succ_self _)) (y := (k, l)) ⟨_, rfl, hu.kept (T := []) (.ext (hx2 _))⟩ hA2 (by rw [size_alloc]; omega) (by omega) ?_; intro v2 w2 own2 hg2 hb2; obtain ⟨A2, m2, c3, rfl, _, _, _⟩ := own2.form; have bp2 := (bp1.ext (ext_alloc _ _)).below hb2 (by omega); have bR2 := (bR1.ext (ext_alloc _ _)).below hb2 (by omega); obtain ⟨u0, u1⟩ := bp2.cells2; obtain ⟨s0, s1⟩ := bR2.cells2; have zp2 := bp2.free; have zr2 := bR2.free; have hx3 : Ext w w2 := (ext_trans hx1 (ext_alloc _ _)).trans (hb2.mono (by omega)); have kp := bp2.kd; have kR := bR2.kd)))
      ((try simp only [Exit.inBlock, Exit.then]); refine bodyPost_ret (v := ?_) ?resultOf rfl ?_; case resultOf => (rw [results_cell_tmp rfl]; go_simp; rfl))
      rw [HP.out]
      refine and_ext (by (repeat (with_reducible (first | assumption | exact Below.refl _ _ | refine Below.setCell ?_ (by simp <;> omega) _ | refine Below.alloc ?_ (by simp <;> omega) _ | refine Below.drew ?_ | refine below_drewN ?_ _)))) fun hx => ⟨_, _, rfl, rfl, ⟨_, _, rfl, hb.ext hx, (own2.kW (by (repeat (with_reducible (first | assumption | exact Kept.refl _ _ _ | (apply Kept.setK; rotate_left; (repeat (first | assumption | apply Kd.set | apply Kd.alloc | apply Kd.drew)); decide; omega) | refine Kept.allocK ?_ _ | refine Kept.drewK ?_))))).row (List.mem_cons_of_mem _ (HT.out (by decide))) (Nat.le_refl _)⟩⟩
    · have q3 : ((n2 : Int) != 16) = true := by rw [bne_iff_ne]; omega
      have HP := hp (d, 2) (by unfold dPut; rw [if_neg (by rw [← HN.out]; exact hlo), if_pos (by rw [← HN2.out]; exact h16)])
      clear hlo h16
      go_wp2
      ((try simp only [Exit.inBlock, Exit.then]); refine bodyPost_ret (v := ?_) ?resultOf rfl ?_; case resultOf => (rw [results_cell_tmp rfl]; go_simp; rfl))
      rw [HP.out]
      refine and_ext (by (repeat (with_reducible (first | assumption | exact Below.refl _ _ | refine Below.setCell ?_ (by simp <;> omega) _ | refine Below.alloc ?_ (by simp <;> omega) _ | refine Below.drew ?_ | refine below_drewN ?_ _)))) fun hx => ⟨_, _, rfl, rfl, ⟨_, _, rfl, hb.ext hx, hl.ext hx⟩⟩

end Go.Proofs.Ytnganglmpcbcbaa
