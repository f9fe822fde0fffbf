/- Walks: the closed fact of chapter 4. -/
import Derived.Test.YtnganglmpcbcbaaPairTells
import Derived.Deep.Cut
import Derived.Deep.CutRange
namespace Go.Proofs.Ytnganglmpcbcbaa
open Go Go.RowKit

/-- A disk in a box. -/
def BoxD (w : World) (p : Value) (d : Dsk) : Prop := ∃ g A n c E m e, p = .pointer (some ⟨g, 0, none⟩) ∧ Box w g 46 #[.slice A n c, .slice E m e] ∧ DskV tD w 0 (.agg #[.slice A n c, .slice E m e]) d
theorem free_fine : Fine dFree 0 := by
  refine ⟨⟨by decide, by decide, fun i => ?_, fun i => by simp [dFree]⟩, fun i hi => absurd hi (by simp [dFree]), by simp [dFree]⟩
  rcases Nat.lt_or_ge i 12 with h | h
  · have : ∀ i : Fin 12, (dFree.blocks.getD i.1 []).length ≤ 4096 := by decide +kernel
    exact this ⟨i, h⟩
  · rw [List.getD_eq_getElem?_getD, List.getElem?_eq_none (by simpa [dFree] using h)]
    simp
def qR : Rec := ⟨2, 7, 3, []⟩
def qD : Dsk := (pPut dFree 1 qR).1
def qS : Dsk := dSpoil (dFlush qD) 2 4 1
theorem qIn : pIn dFree 1 := by unfold pIn dFree; decide
theorem qW : rWrong qR = 0 := by decide
theorem qE : (pPut dFree 1 qR).2 = 0 := by rw [pPut_ok qIn qW]
theorem qL1 : pLook qD 1 = (1, qR) := pLook_put qIn (by decide) qW
theorem qL2 : pLook qS 1 = (2, qR) := pSpoil_one qIn (by decide) qW (by decide) (.inl rfl) (by decide) (by decide) free_fine.inn
theorem qLate : qS.late.length = 0 := by
  unfold qS dSpoil
  split <;> simp [dFlush]
theorem qBlk : qS.blocks.length = 12 := by
  have h : (dFlush qD).blocks.length = 12 := by
    show (fTo _ _ _).length = _
    rw [fTo_length]
    unfold qD
    rw [pPut_ok qIn qW]
    decide
  unfold qS dSpoil
  split
  · simpa using h
  · exact h
theorem qM : (pMend qS 1).2 = 2 ∧ (pMend qS 1).1.late.length = 2 := by
  have hi : pIn qS 1 := by unfold pIn; rw [qBlk]; decide
  unfold pMend
  rw [qL2]
  rw [if_neg (by decide)]
  refine ⟨rfl, ?_⟩
  simp only
  rw [pPut_ok hi qW]
  show (qS.late ++ _).length = 2
  rw [List.length_append, qLate]
  rfl
theorem fine_D : Fine qD 2 := free_fine.put (by omega) 1 qR
theorem fine_S : Fine qS 0 := fine_D.flush.spoil 2 4 1

set_option maxRecDepth 100000 in
set_option maxHeartbeats 4000000 in
theorem alive4_w (w : World) : Calls Try.prog 82 #[] w fun e w' => e = .returned (.bool true) ∧ Ext w w' := by
  go_enter Try.func82, Try.ntmps82
  go_upto_region 2 with (fail)
  generalize hwn : World.alloc w _ = W
  have hx : Ext w W := by rw [← hwn]; exact ext_alloc _ _
  have b1 : Box W w.heap.size 32 #[.int .i64 2, .int .i64 7, .int .i64 3, .slice none 0 0] := by rw [← hwn]; exact Box.new _ _ _ (by simp)
  clear hwn
  go_cut [2, 3] from 12 to 18 (fun t2 t3 wr => BoxD wr t2 qD ∧ t3 = .int .i64 0 ∧ Box wr w.heap.size 32 #[.int .i64 2, .int .i64 7, .int .i64 3, .slice none 0 0] ∧ Ext w wr)
  case first =>
    have hx := hx.drew
    have b1 := b1.drew
    refine wp_region_ue 9 [5, 8] [1, 3, 4, 5, 8] rfl (by kernel_rfl) (by kernel_rfl) ?_
    generalize W.drew = D at hx b1 ⊢
    apply uF 1 (by kernel_rfl) (by rfl) (by rfl) (by rfl)
    · (intro w' hx; obtain ⟨x0, x1, x2, x3⟩ := (b1.ext hx).c4; go_simp <;> with_reducible rfl)
    simp only [Act.put, List.setIfInBounds_toArray, List.set_cons_zero, List.set_cons_succ]
    refine uS2 0 6 (by kernel_rfl) (by kernel_rfl) (by rfl) (by rfl) (by rfl) (by rfl) (fun K hK => ?_) (fun K hK => ?_)
    · skip
      go_wp2_with (go_at_call 47; refine (refNew_v _).mono ?_; rintro e wn ⟨v9, rfl, o9, he⟩)
      refine hK.out _ _ (he) ?_
      clear hK K
      try simp only [Act.put, List.setIfInBounds_toArray, List.set_cons_zero, List.set_cons_succ]
      have d9 := o9.v
      clear o9
      have hx := ext_trans hx he
      have b1 := b1.ext he
      try (have d9 := d9.ext he)
      try (have d11 := d11.ext he)
      try (have b2 := b2.ext he)
      clear he
      refine uS2 2 6 (by kernel_rfl) (by kernel_rfl) (by rfl) (by rfl) (by rfl) (by rfl) (fun K hK => ?_) (fun K hK => ?_)
      · skip
        go_wp2_with (go_at_call 78; refine (pPut_v (p := 1) (r := qR) d9 free_fine.ok (by decide) ⟨_, rfl, ByT.nil _ 0⟩).mono ?_; rintro e wp ⟨v11, q11, rfl, hq, d11, he⟩)
        refine hK.out _ _ (he) ?_
        clear hK K
        try simp only [Act.put, List.setIfInBounds_toArray, List.set_cons_zero, List.set_cons_succ]
        obtain rfl : q11 = 0 := hq.out.trans qE
        clear hq
        have hx := ext_trans hx he
        have b1 := b1.ext he
        try (have d9 := d9.ext he)
        try (have d11 := d11.ext he)
        try (have b2 := b2.ext he)
        clear he
        obtain ⟨A11, n11, c11, E11, m11, e11, rfl, _, _, _, _, _, _⟩ := d11.form
        apply uF 3 (by kernel_rfl) (by rfl) (by rfl) (by rfl)
        · (intro w' hx; go_simp <;> with_reducible rfl)
        simp only [Act.put, List.setIfInBounds_toArray, List.set_cons_zero, List.set_cons_succ]
        apply uF 4 (by kernel_rfl) (by rfl) (by rfl) (by rfl)
        · (intro w' hx; go_simp <;> with_reducible rfl)
        simp only [Act.put, List.setIfInBounds_toArray, List.set_cons_zero, List.set_cons_succ]
        apply uU 5 (by kernel_rfl) (by rfl) (by rfl)
        · (intro w'; go_simp <;> with_reducible rfl)
        simp only [Act.put, List.setIfInBounds_toArray, List.set_cons_zero, List.set_cons_succ]
        refine uS 6 (by kernel_rfl) (by kernel_rfl) (by rfl) (by rfl) (fun K hK => ?_)
        go_wp2
        refine hK.out _ _ (ext_alloc _ _) ?_
        clear hK K
        try simp only [Act.put, List.setIfInBounds_toArray, List.set_cons_zero, List.set_cons_succ]
        obtain ⟨wc, hwc⟩ : ∃ wc, wc = wp := ⟨_, rfl⟩
        rw [← hwc] at hx b1 ⊢
        try rw [← hwc] at d9
        try rw [← hwc] at d11
        clear hwc
        have l2 := hx.size
        have l12 := b1.lt
        generalize hwn : World.alloc wc _ = wn
        have he : Ext wc wn := by rw [← hwn]; exact ext_alloc _ _
        have b2 : Box wn wc.heap.size 46 #[.slice none 0 0, .slice none 0 0] := by rw [← hwn]; exact Box.new _ _ _ (by simp)
        clear hwn
        have hx := ext_trans hx he
        have b1 := b1.ext he
        try (have d9 := d9.ext he)
        try (have d11 := d11.ext he)
        clear he
        refine uL 7 (by kernel_rfl) (by kernel_rfl) (by kernel_rfl) (by rfl) (by rfl) (fun K hK => ?_)
        have hK' := Lib.hid hK
        clear hK
        have k2 := b2.kd
        obtain ⟨b2_0, b2_1⟩ := b2.c2
        have b2_z := b2.free
        have b2_l := b2.lt
        go_wp2
        refine hK'.out _ _ ?_
        clear hK' K
        apply uU 8 (by kernel_rfl) (by rfl) (by rfl)
        · (intro w'; go_simp <;> with_reducible rfl)
        simp only [Act.put, List.setIfInBounds_toArray, List.set_cons_zero, List.set_cons_succ]
        refine uEnd (by kernel_rfl) ?_
        go_wp2_with fail
        go_meet
        exact ⟨⟨_, _, _, _, _, _, _, rfl, (b2.set 0 _).set 1 _, d11.kept (by (repeat (with_reducible (first | assumption | exact Kept.refl _ _ _ | (apply Kept.setK; rotate_left; (repeat (first | assumption | apply Kd.set | apply Kd.alloc | apply Kd.drew)); decide; omega) | refine Kept.allocK ?_ _ | refine Kept.drewK ?_))))⟩, rfl, by (repeat (with_reducible (first | assumption | refine Box.alloc ?_ _ | refine Box.setOther ?_ (by simp <;> omega) _))), by (repeat (with_reducible (first | assumption | exact Below.refl _ _ | refine Below.setCell ?_ (by simp <;> omega) _ | refine Below.alloc ?_ (by simp <;> omega) _ | refine Below.drew ?_ | refine below_drewN ?_ _)))⟩
      · skip
        go_wp2
        refine hK.out _ _ (ext_alloc _ _) ?_
        clear hK K
        try simp only [Act.put, List.setIfInBounds_toArray, List.set_cons_zero, List.set_cons_succ]
        obtain ⟨wc, hwc⟩ : ∃ wc, wc = wn := ⟨_, rfl⟩
        rw [← hwc] at hx b1 ⊢
        try rw [← hwc] at d9
        try rw [← hwc] at d11
        clear hwc
        have l2 := hx.size
        have l12 := b1.lt
        generalize hwn : World.alloc wc _ = wn
        have he : Ext wc wn := by rw [← hwn]; exact ext_alloc _ _
        have b2 : Box wn wc.heap.size 46 #[.slice none 0 0, .slice none 0 0] := by rw [← hwn]; exact Box.new _ _ _ (by simp)
        clear hwn
        have hx := ext_trans hx he
        have b1 := b1.ext he
        try (have d9 := d9.ext he)
        try (have d11 := d11.ext he)
        clear he
        refine uS 2 (by kernel_rfl) (by kernel_rfl) (by rfl) (by rfl) (fun K hK => ?_)
        go_wp2_with (go_at_call 78; refine (pPut_v (p := 1) (r := qR) d9 free_fine.ok (by decide) ⟨_, rfl, ByT.nil _ 0⟩).mono ?_; rintro e wp ⟨v11, q11, rfl, hq, d11, he⟩)
        refine hK.out _ _ (he) ?_
        clear hK K
        try simp only [Act.put, List.setIfInBounds_toArray, List.set_cons_zero, List.set_cons_succ]
        obtain rfl : q11 = 0 := hq.out.trans qE
        clear hq
        have hx := ext_trans hx he
        have b1 := b1.ext he
        try (have d9 := d9.ext he)
        try (have d11 := d11.ext he)
        try (have b2 := b2.ext he)
        clear he
        obtain ⟨A11, n11, c11, E11, m11, e11, rfl, _, _, _, _, _, _⟩ := d11.form
        apply uF 3 (by kernel_rfl) (by rfl) (by rfl) (by rfl)
        · (intro w' hx; go_simp <;> with_reducible rfl)
        simp only [Act.put, List.setIfInBounds_toArray, List.set_cons_zero, List.set_cons_succ]
        apply uF 4 (by kernel_rfl) (by rfl) (by rfl) (by rfl)
        · (intro w' hx; go_simp <;> with_reducible rfl)
        simp only [Act.put, List.setIfInBounds_toArray, List.set_cons_zero, List.set_cons_succ]
        apply uU 5 (by kernel_rfl) (by rfl) (by rfl)
        · (intro w'; go_simp <;> with_reducible rfl)
        simp only [Act.put, List.setIfInBounds_toArray, List.set_cons_zero, List.set_cons_succ]
        refine uL 7 (by kernel_rfl) (by kernel_rfl) (by kernel_rfl) (by rfl) (by rfl) (fun K hK => ?_)
        have hK' := Lib.hid hK
        clear hK
        have k2 := b2.kd
        obtain ⟨b2_0, b2_1⟩ := b2.c2
        have b2_z := b2.free
        have b2_l := b2.lt
        go_wp2
        refine hK'.out _ _ ?_
        clear hK' K
        apply uU 8 (by kernel_rfl) (by rfl) (by rfl)
        · (intro w'; go_simp <;> with_reducible rfl)
        simp only [Act.put, List.setIfInBounds_toArray, List.set_cons_zero, List.set_cons_succ]
        refine uEnd (by kernel_rfl) ?_
        go_wp2_with fail
        go_meet
        exact ⟨⟨_, _, _, _, _, _, _, rfl, (b2.set 0 _).set 1 _, d11.kept (by (repeat (with_reducible (first | assumption | exact Kept.refl _ _ _ | (apply Kept.setK; rotate_left; (repeat (first | assumption | apply Kd.set | apply Kd.alloc | apply Kd.drew)); decide; omega) | refine Kept.allocK ?_ _ | refine Kept.drewK ?_))))⟩, rfl, by (repeat (with_reducible (first | assumption | refine Box.alloc ?_ _ | refine Box.setOther ?_ (by simp <;> omega) _))), by (repeat (with_reducible (first | assumption | exact Below.refl _ _ | refine Below.setCell ?_ (by simp <;> omega) _ | refine Below.alloc ?_ (by simp <;> omega) _ | refine Below.drew ?_ | refine below_drewN ?_ _)))⟩
    · skip
      go_wp2
      refine hK.out _ _ (ext_alloc _ _) ?_
      clear hK K
      try simp only [Act.put, List.setIfInBounds_toArray, List.set_cons_zero, List.set_cons_succ]
      obtain ⟨wc, hwc⟩ : ∃ wc, wc = D := ⟨_, rfl⟩
      rw [← hwc] at hx b1 ⊢
      try rw [← hwc] at d9
      try rw [← hwc] at d11
      clear hwc
      have l2 := hx.size
      have l12 := b1.lt
      generalize hwn : World.alloc wc _ = wn
      have he : Ext wc wn := by rw [← hwn]; exact ext_alloc _ _
      have b2 : Box wn wc.heap.size 46 #[.slice none 0 0, .slice none 0 0] := by rw [← hwn]; exact Box.new _ _ _ (by simp)
      clear hwn
      have hx := ext_trans hx he
      have b1 := b1.ext he
      try (have d9 := d9.ext he)
      try (have d11 := d11.ext he)
      clear he
      refine uS 0 (by kernel_rfl) (by kernel_rfl) (by rfl) (by rfl) (fun K hK => ?_)
      go_wp2_with (go_at_call 47; refine (refNew_v _).mono ?_; rintro e wn ⟨v9, rfl, o9, he⟩)
      refine hK.out _ _ (he) ?_
      clear hK K
      try simp only [Act.put, List.setIfInBounds_toArray, List.set_cons_zero, List.set_cons_succ]
      have d9 := o9.v
      clear o9
      have hx := ext_trans hx he
      have b1 := b1.ext he
      try (have d9 := d9.ext he)
      try (have d11 := d11.ext he)
      try (have b2 := b2.ext he)
      clear he
      refine uS 2 (by kernel_rfl) (by kernel_rfl) (by rfl) (by rfl) (fun K hK => ?_)
      go_wp2_with (go_at_call 78; refine (pPut_v (p := 1) (r := qR) d9 free_fine.ok (by decide) ⟨_, rfl, ByT.nil _ 0⟩).mono ?_; rintro e wp ⟨v11, q11, rfl, hq, d11, he⟩)
      refine hK.out _ _ (he) ?_
      clear hK K
      try simp only [Act.put, List.setIfInBounds_toArray, List.set_cons_zero, List.set_cons_succ]
      obtain rfl : q11 = 0 := hq.out.trans qE
      clear hq
      have hx := ext_trans hx he
      have b1 := b1.ext he
      try (have d9 := d9.ext he)
      try (have d11 := d11.ext he)
      try (have b2 := b2.ext he)
      clear he
      obtain ⟨A11, n11, c11, E11, m11, e11, rfl, _, _, _, _, _, _⟩ := d11.form
      apply uF 3 (by kernel_rfl) (by rfl) (by rfl) (by rfl)
      · (intro w' hx; go_simp <;> with_reducible rfl)
      simp only [Act.put, List.setIfInBounds_toArray, List.set_cons_zero, List.set_cons_succ]
      apply uF 4 (by kernel_rfl) (by rfl) (by rfl) (by rfl)
      · (intro w' hx; go_simp <;> with_reducible rfl)
      simp only [Act.put, List.setIfInBounds_toArray, List.set_cons_zero, List.set_cons_succ]
      apply uU 5 (by kernel_rfl) (by rfl) (by rfl)
      · (intro w'; go_simp <;> with_reducible rfl)
      simp only [Act.put, List.setIfInBounds_toArray, List.set_cons_zero, List.set_cons_succ]
      refine uL 7 (by kernel_rfl) (by kernel_rfl) (by kernel_rfl) (by rfl) (by rfl) (fun K hK => ?_)
      have hK' := Lib.hid hK
      clear hK
      have k2 := b2.kd
      obtain ⟨b2_0, b2_1⟩ := b2.c2
      have b2_z := b2.free
      have b2_l := b2.lt
      go_wp2
      refine hK'.out _ _ ?_
      clear hK' K
      apply uU 8 (by kernel_rfl) (by rfl) (by rfl)
      · (intro w'; go_simp <;> with_reducible rfl)
      simp only [Act.put, List.setIfInBounds_toArray, List.set_cons_zero, List.set_cons_succ]
      refine uEnd (by kernel_rfl) ?_
      go_wp2_with fail
      go_meet
      exact ⟨⟨_, _, _, _, _, _, _, rfl, (b2.set 0 _).set 1 _, d11.kept (by (repeat (with_reducible (first | assumption | exact Kept.refl _ _ _ | (apply Kept.setK; rotate_left; (repeat (first | assumption | apply Kd.set | apply Kd.alloc | apply Kd.drew)); decide; omega) | refine Kept.allocK ?_ _ | refine Kept.drewK ?_))))⟩, rfl, by (repeat (with_reducible (first | assumption | refine Box.alloc ?_ _ | refine Box.setOther ?_ (by simp <;> omega) _))), by (repeat (with_reducible (first | assumption | exact Below.refl _ _ | refine Below.setCell ?_ (by simp <;> omega) _ | refine Below.alloc ?_ (by simp <;> omega) _ | refine Below.drew ?_ | refine below_drewN ?_ _)))⟩
  case rest =>
    obtain ⟨⟨g2, A2, n2, c2, E2, m2, e2, rfl, b2, d2⟩, rfl, b1, hx⟩ := hcut
    obtain ⟨b2_0, b2_1⟩ := b2.c2
    have b2_z := b2.free
    have b2_l := b2.lt
    go_wp2_with fail
    refine (look_v (p := 1) d2 fine_D.ok).mono ?_
    rintro e3 w3 ⟨v3, rfl, hr3, he⟩
    try clear b2_0 b2_1 b2_z b2_l b2_0 b2_1 b2_z b2_l b2_0 b2_1 b2_z b2_l b2_0 b2_1 b2_z b2_l
    have hx := ext_trans hx he
    have b1 := b1.ext he
    have b2 := b2.ext he
    have d2 := d2.ext he
    clear he
    rw [qL1] at hr3
    rw [qL1]
    simp only at hr3
    obtain ⟨A3, n3, c3, rfl, _, hy3⟩ := hr3.at_
    go_upto_region 4 with (fail)
    generalize hwn : World.alloc w3 _ = w4
    have he : Ext w3 w4 := by rw [← hwn]; exact ext_alloc _ _
    have b5 : Box w4 w3.heap.size 32 #[.int .i64 qR.kind, .int .i64 qR.key, .int .i64 qR.ver, .slice A3 n3 c3] := by rw [← hwn]; exact Box.new _ _ _ (by simp)
    clear hwn hy3
    have hx := ext_trans hx he
    have b1 := b1.ext he
    have b2 := b2.ext he
    have d2 := d2.ext he
    have hr3 := hr3.ext he
    clear he
    obtain ⟨b2_0, b2_1⟩ := b2.c2
    have b2_z := b2.free
    have b2_l := b2.lt
    go_wp2_with fail
    refine (refFlush_v (T := tD) (List.Subset.refl _) (Nat.zero_le _) d2 fine_D.ok fine_D.inn).mono ?_
    rintro e5 w5 ⟨v5, rfl, d5, he⟩
    try clear b2_0 b2_1 b2_z b2_l
    have hx := ext_trans hx he
    have b1 := b1.ext he
    have b2 := b2.ext he
    have b5 := b5.ext he
    have hr3 := hr3.ext he
    clear he
    obtain ⟨A5, n5, c5, E5, m5, e5, rfl, _, _, _, _, _, _⟩ := d5.form
    clear d2
    go_wp2_with fail
    refine (refSpoil_v (T := tD) (k := 2) (n := 4) (y := 1) (List.Subset.refl _) (Nat.zero_le _) d5 fine_D.flush.ok).mono ?_
    rintro e6 w6 ⟨v6, rfl, d6, he⟩
    have hx := ext_trans hx he
    have b1 := b1.ext he
    have b5 := b5.ext he
    have hr3 := hr3.ext he
    clear he
    obtain ⟨A6, n6, c6, E6, m6, e6, rfl, _, _, _, _, _, _⟩ := d6.form
    clear d5 b2
    go_upto_region 5 with (fail)
    generalize hwn : World.alloc w6 _ = w7
    have he : Ext w6 w7 := by rw [← hwn]; exact ext_alloc _ _
    have b6 : Box w7 w6.heap.size 46 #[.slice A6 n6 c6, .slice E6 m6 e6] := by rw [← hwn]; exact Box.new _ _ _ (by simp)
    clear hwn
    have hx := ext_trans hx he
    have b1 := b1.ext he
    have b5 := b5.ext he
    have d6 := d6.ext he
    have hr3 := hr3.ext he
    clear he
    obtain ⟨b6_0, b6_1⟩ := b6.c2
    have b6_z := b6.free
    have b6_l := b6.lt
    go_wp2_with fail
    refine (look_v (d := qS) (p := 1) d6 fine_S.ok).mono ?_
    rintro e8 w8 ⟨v8, rfl, hr8, he⟩
    try clear b6_0 b6_1 b6_z b6_l
    have hx := ext_trans hx he
    have b1 := b1.ext he
    have b5 := b5.ext he
    have b6 := b6.ext he
    have d6 := d6.ext he
    have hr3 := hr3.ext he
    clear he
    rw [qL2] at hr8
    rw [qL2]
    simp only at hr8
    obtain ⟨A8, n8, c8, rfl, _, hy8⟩ := hr8.at_
    go_upto_region 6 with (fail)
    generalize hwn : World.alloc w8 _ = w9
    have he : Ext w8 w9 := by rw [← hwn]; exact ext_alloc _ _
    have b8 : Box w9 w8.heap.size 32 #[.int .i64 qR.kind, .int .i64 qR.key, .int .i64 qR.ver, .slice A8 n8 c8] := by rw [← hwn]; exact Box.new _ _ _ (by simp)
    clear hwn hy8
    have hx := ext_trans hx he
    have b1 := b1.ext he
    have b5 := b5.ext he
    have b6 := b6.ext he
    have d6 := d6.ext he
    have hr3 := hr3.ext he
    have hr8 := hr8.ext he
    clear he
    obtain ⟨b6_0, b6_1⟩ := b6.c2
    have b6_z := b6.free
    have b6_l := b6.lt
    go_wp2_with fail
    refine (mend_v (d := qS) (p := 1) d6 fine_S.ok (by rw [qLate]; omega)).mono ?_
    rintro e10 w10 ⟨v10, q10, rfl, hq10, d10, he⟩
    try clear b6_0 b6_1 b6_z b6_l
    have hx := ext_trans hx he
    have b1 := b1.ext he
    have b5 := b5.ext he
    have b6 := b6.ext he
    have b8 := b8.ext he
    have hr3 := hr3.ext he
    have hr8 := hr8.ext he
    clear he
    obtain rfl : q10 = 2 := hq10.out.trans qM.1
    clear hq10 d6 b6
    obtain ⟨A10, n10, c10, E10, m10, e10, rfl, _, HM10, _, _, _, _⟩ := d10.form
    obtain rfl : m10 = 2 := HM10.out.trans qM.2
    clear HM10
    go_upto_region 7 with (fail)
    generalize hwn : World.alloc w10 _ = w11
    have he : Ext w10 w11 := by rw [← hwn]; exact ext_alloc _ _
    have b9 : Box w11 w10.heap.size 46 #[.slice A10 n10 c10, .slice E10 2 e10] := by rw [← hwn]; exact Box.new _ _ _ (by simp)
    clear hwn d10
    have hx := ext_trans hx he
    have b1 := b1.ext he
    have b5 := b5.ext he
    have b8 := b8.ext he
    have hr3 := hr3.ext he
    have hr8 := hr8.ext he
    clear he
    obtain ⟨b1_0, b1_1, b1_2, b1_3⟩ := b1.c4
    have b1_z := b1.free
    have b1_l := b1.lt
    obtain ⟨b5_0, b5_1, b5_2, b5_3⟩ := b5.c4
    have b5_z := b5.free
    have b5_l := b5.lt
    go_wp2_with fail
    refine (refSame_v (r := qR) (s := qR) hr3 ⟨_, rfl, ByT.nil _ 0⟩).mono ?_
    rintro e12 w12 ⟨rfl, he⟩
    try clear b1_0 b1_1 b1_2 b1_3 b1_z b1_l b5_0 b5_1 b5_2 b5_3 b5_z b5_l
    have hx := ext_trans hx he
    have b1 := b1.ext he
    have b5 := b5.ext he
    have b8 := b8.ext he
    have b9 := b9.ext he
    have hr8 := hr8.ext he
    clear he
    rw [rSame_id]
    obtain ⟨b1_0, b1_1, b1_2, b1_3⟩ := b1.c4
    have b1_z := b1.free
    have b1_l := b1.lt
    obtain ⟨b8_0, b8_1, b8_2, b8_3⟩ := b8.c4
    have b8_z := b8.free
    have b8_l := b8.lt
    go_wp2_with fail
    refine (refSame_v (r := qR) (s := qR) hr8 ⟨_, rfl, ByT.nil _ 0⟩).mono ?_
    rintro e13 w13 ⟨rfl, he⟩
    try clear b1_0 b1_1 b1_2 b1_3 b1_z b1_l b8_0 b8_1 b8_2 b8_3 b8_z b8_l
    have hx := ext_trans hx he
    have b1 := b1.ext he
    have b8 := b8.ext he
    have b9 := b9.ext he
    clear he
    rw [rSame_id]
    obtain ⟨b9_0, b9_1⟩ := b9.c2
    have b9_z := b9.free
    have b9_l := b9.lt
    go_wp2_with fail
    go_ret
    exact ⟨rfl, hx⟩
end Go.Proofs.Ytnganglmpcbcbaa

