/- Walks: the closed fact of chapter 5. -/
import Derived.Test.YtnganglmpcbcbaaAlive4
import Derived.Test.YtnganglmpcbcbaaIx5
import Derived.Test.YtnganglmpcbcbaaIx6
import Derived.Test.YtnganglmpcbcbaaIx10
import Derived.Test.YtnganglmpcbcbaaIx11
import Derived.Deep.Cut
import Derived.Deep.CutRange
namespace Go.Proofs.Ytnganglmpcbcbaa
open Go Go.RowKit

def q2D : Dsk := (pPut dFree 2 qR).1
theorem q2In : pIn dFree 2 := by unfold pIn dFree; decide
theorem q2E : (pPut dFree 2 qR).2 = 0 := by rw [pPut_ok q2In qW]
theorem q2F : Fine q2D 2 := free_fine.put (by omega) 2 qR
def eA : Ent := ⟨qR, 2⟩
def eB : Ent := ⟨⟨3, 7, 4, []⟩, 0⟩
theorem q2S : iScan q2D = [eA] := by decide +kernel
theorem ins2 {l' : List Ent} (h : l'.Perm ([eA] ++ [eB])) (hs : l'.Pairwise fun a b => ¬ eLt b a) : l' = [eA, eB] := by
  have hp : ∀ x ∈ [eA], x.pair ≠ eB.pair := by decide
  have hl : [eA].Pairwise eLt := List.pairwise_singleton _ _
  have h1 : ([eA] ++ [eB]).Pairwise fun a b => a.pair ≠ b.pair := by decide
  rw [ins_unique h hl hp (sorted_strict hs (perm_pairs h h1))]
  decide
theorem small2 : ∀ e ∈ [eA, eB], e.rcd.data.length ≤ 4096 := by decide

set_option maxRecDepth 100000 in
set_option maxHeartbeats 4000000 in
theorem alive5_w (w : World) : Calls Try.prog 94 #[] w fun e w' => e = .returned (.bool true) ∧ Ext w w' := by
  go_enter Try.func94, Try.ntmps94
  go_upto_region 2 with (fail)
  generalize hwn : World.alloc w _ = W
  have hx : Ext w W := by rw [← hwn]; exact ext_alloc _ _
  have b1 : Box W w.heap.size 32 #[.int .i64 2, .int .i64 7, .int .i64 3, .slice none 0 0] := by rw [← hwn]; exact Box.new _ _ _ (by simp)
  clear hwn
  go_cut [2, 3] from 11 to 17 (fun t2 t3 wr => BoxD wr t2 q2D ∧ t3 = .int .i64 0 ∧ Box wr w.heap.size 32 #[.int .i64 2, .int .i64 7, .int .i64 3, .slice none 0 0] ∧ Ext w wr)
  case first =>
    have hx := hx.drew
    have b1 := b1.drew
    refine wp_region_ue 9 [5, 8] [1, 3, 4, 5, 8] rfl (by kernel_rfl) (by kernel_rfl) ?_
    generalize W.drew = D at hx b1 ⊢
    apply uF 1 (by kernel_rfl) (by rfl) (by rfl) (by rfl)
    · (intro w' hx; obtain ⟨x0, x1, x2, x3⟩ := (b1.ext hx).c4; go_simp <;> with_reducible rfl)
    simp only [Act.put, List.setIfInBounds_toArray, List.set_cons_zero, List.set_cons_succ]
    refine uS2 0 6 (by kernel_rfl) (by kernel_rfl) (by rfl) (by rfl) (by rfl) (by rfl) (fun K hK => ?_) (fun K hK => ?_)
    · skip
      go_wp2_with (go_at_call 47; refine (refNew_v _).mono ?_; rintro e wn ⟨v9, rfl, o9, he⟩)
      refine hK.out _ _ (he) ?_
      clear hK K
      try simp only [Act.put, List.setIfInBounds_toArray, List.set_cons_zero, List.set_cons_succ]
      have d9 := o9.v
      clear o9
      have hx := ext_trans hx he
      have b1 := b1.ext he
      try (have d9 := d9.ext he)
      try (have d11 := d11.ext he)
      try (have b2 := b2.ext he)
      clear he
      refine uS2 2 6 (by kernel_rfl) (by kernel_rfl) (by rfl) (by rfl) (by rfl) (by rfl) (fun K hK => ?_) (fun K hK => ?_)
      · skip
        go_wp2_with (go_at_call 79; refine (rpPut_v (p := 2) (r := qR) (List.Subset.refl tD) (by decide) (Nat.zero_le _) d9 free_fine.ok (by decide) ⟨_, rfl, ByT.nil _ 0⟩).mono ?_; rintro e wp ⟨v11, q11, rfl, hq, d11, he⟩)
        refine hK.out _ _ (he) ?_
        clear hK K
        try simp only [Act.put, List.setIfInBounds_toArray, List.set_cons_zero, List.set_cons_succ]
        obtain rfl : q11 = 0 := hq.out.trans q2E
        clear hq
        have hx := ext_trans hx he
        have b1 := b1.ext he
        try (have d9 := d9.ext he)
        try (have d11 := d11.ext he)
        try (have b2 := b2.ext he)
        clear he
        obtain ⟨A11, n11, c11, E11, m11, e11, rfl, _, _, _, _, _, _⟩ := d11.form
        apply uF 3 (by kernel_rfl) (by rfl) (by rfl) (by rfl)
        · (intro w' hx; go_simp <;> with_reducible rfl)
        simp only [Act.put, List.setIfInBounds_toArray, List.set_cons_zero, List.set_cons_succ]
        apply uF 4 (by kernel_rfl) (by rfl) (by rfl) (by rfl)
        · (intro w' hx; go_simp <;> with_reducible rfl)
        simp only [Act.put, List.setIfInBounds_toArray, List.set_cons_zero, List.set_cons_succ]
        apply uU 5 (by kernel_rfl) (by rfl) (by rfl)
        · (intro w'; go_simp <;> with_reducible rfl)
        simp only [Act.put, List.setIfInBounds_toArray, List.set_cons_zero, List.set_cons_succ]
        refine uS 6 (by kernel_rfl) (by kernel_rfl) (by rfl) (by rfl) (fun K hK => ?_)
        go_wp2
        refine hK.out _ _ (ext_alloc _ _) ?_
        clear hK K
        try simp only [Act.put, List.setIfInBounds_toArray, List.set_cons_zero, List.set_cons_succ]
        obtain ⟨wc, hwc⟩ : ∃ wc, wc = wp := ⟨_, rfl⟩
        rw [← hwc] at hx b1 ⊢
        try rw [← hwc] at d9
        try rw [← hwc] at d11
        clear hwc
        have l2 := hx.size
        have l12 := b1.lt
        generalize hwn : World.alloc wc _ = wn
        have he : Ext wc wn := by rw [← hwn]; exact ext_alloc _ _
        have b2 : Box wn wc.heap.size 46 #[.slice none 0 0, .slice none 0 0] := by rw [← hwn]; exact Box.new _ _ _ (by simp)
        clear hwn
        have hx := ext_trans hx he
        have b1 := b1.ext he
        try (have d9 := d9.ext he)
        try (have d11 := d11.ext he)
        clear he
        refine uL 7 (by kernel_rfl) (by kernel_rfl) (by kernel_rfl) (by rfl) (by rfl) (fun K hK => ?_)
        have hK' := Lib.hid hK
        clear hK
        have k2 := b2.kd
        obtain ⟨b2_0, b2_1⟩ := b2.c2
        have b2_z := b2.free
        have b2_l := b2.lt
        go_wp2
        refine hK'.out _ _ ?_
        clear hK' K
        apply uU 8 (by kernel_rfl) (by rfl) (by rfl)
        · (intro w'; go_simp <;> with_reducible rfl)
        simp only [Act.put, List.setIfInBounds_toArray, List.set_cons_zero, List.set_cons_succ]
        refine uEnd (by kernel_rfl) ?_
        go_wp2_with fail
        go_meet
        exact ⟨⟨_, _, _, _, _, _, _, rfl, (b2.set 0 _).set 1 _, d11.kept (by (repeat (with_reducible (first | assumption | exact Kept.refl _ _ _ | (apply Kept.setK; rotate_left; (repeat (first | assumption | apply Kd.set | apply Kd.alloc | apply Kd.drew)); decide; omega) | refine Kept.allocK ?_ _ | refine Kept.drewK ?_))))⟩, rfl, by (repeat (with_reducible (first | assumption | refine Box.alloc ?_ _ | refine Box.setOther ?_ (by simp <;> omega) _))), by (repeat (with_reducible (first | assumption | exact Below.refl _ _ | refine Below.setCell ?_ (by simp <;> omega) _ | refine Below.alloc ?_ (by simp <;> omega) _ | refine Below.drew ?_ | refine below_drewN ?_ _)))⟩
      · skip
        go_wp2
        refine hK.out _ _ (ext_alloc _ _) ?_
        clear hK K
        try simp only [Act.put, List.setIfInBounds_toArray, List.set_cons_zero, List.set_cons_succ]
        obtain ⟨wc, hwc⟩ : ∃ wc, wc = wn := ⟨_, rfl⟩
        rw [← hwc] at hx b1 ⊢
        try rw [← hwc] at d9
        try rw [← hwc] at d11
        clear hwc
        have l2 := hx.size
        have l12 := b1.lt
        generalize hwn : World.alloc wc _ = wn
        have he : Ext wc wn := by rw [← hwn]; exact ext_alloc _ _
        have b2 : Box wn wc.heap.size 46 #[.slice none 0 0, .slice none 0 0] := by rw [← hwn]; exact Box.new _ _ _ (by simp)
        clear hwn
        have hx := ext_trans hx he
        have b1 := b1.ext he
        try (have d9 := d9.ext he)
        try (have d11 := d11.ext he)
        clear he
        refine uS 2 (by kernel_rfl) (by kernel_rfl) (by rfl) (by rfl) (fun K hK => ?_)
        go_wp2_with (go_at_call 79; refine (rpPut_v (p := 2) (r := qR) (List.Subset.refl tD) (by decide) (Nat.zero_le _) d9 free_fine.ok (by decide) ⟨_, rfl, ByT.nil _ 0⟩).mono ?_; rintro e wp ⟨v11, q11, rfl, hq, d11, he⟩)
        refine hK.out _ _ (he) ?_
        clear hK K
        try simp only [Act.put, List.setIfInBounds_toArray, List.set_cons_zero, List.set_cons_succ]
        obtain rfl : q11 = 0 := hq.out.trans q2E
        clear hq
        have hx := ext_trans hx he
        have b1 := b1.ext he
        try (have d9 := d9.ext he)
        try (have d11 := d11.ext he)
        try (have b2 := b2.ext he)
        clear he
        obtain ⟨A11, n11, c11, E11, m11, e11, rfl, _, _, _, _, _, _⟩ := d11.form
        apply uF 3 (by kernel_rfl) (by rfl) (by rfl) (by rfl)
        · (intro w' hx; go_simp <;> with_reducible rfl)
        simp only [Act.put, List.setIfInBounds_toArray, List.set_cons_zero, List.set_cons_succ]
        apply uF 4 (by kernel_rfl) (by rfl) (by rfl) (by rfl)
        · (intro w' hx; go_simp <;> with_reducible rfl)
        simp only [Act.put, List.setIfInBounds_toArray, List.set_cons_zero, List.set_cons_succ]
        apply uU 5 (by kernel_rfl) (by rfl) (by rfl)
        · (intro w'; go_simp <;> with_reducible rfl)
        simp only [Act.put, List.setIfInBounds_toArray, List.set_cons_zero, List.set_cons_succ]
        refine uL 7 (by kernel_rfl) (by kernel_rfl) (by kernel_rfl) (by rfl) (by rfl) (fun K hK => ?_)
        have hK' := Lib.hid hK
        clear hK
        have k2 := b2.kd
        obtain ⟨b2_0, b2_1⟩ := b2.c2
        have b2_z := b2.free
        have b2_l := b2.lt
        go_wp2
        refine hK'.out _ _ ?_
        clear hK' K
        apply uU 8 (by kernel_rfl) (by rfl) (by rfl)
        · (intro w'; go_simp <;> with_reducible rfl)
        simp only [Act.put, List.setIfInBounds_toArray, List.set_cons_zero, List.set_cons_succ]
        refine uEnd (by kernel_rfl) ?_
        go_wp2_with fail
        go_meet
        exact ⟨⟨_, _, _, _, _, _, _, rfl, (b2.set 0 _).set 1 _, d11.kept (by (repeat (with_reducible (first | assumption | exact Kept.refl _ _ _ | (apply Kept.setK; rotate_left; (repeat (first | assumption | apply Kd.set | apply Kd.alloc | apply Kd.drew)); decide; omega) | refine Kept.allocK ?_ _ | refine Kept.drewK ?_))))⟩, rfl, by (repeat (with_reducible (first | assumption | refine Box.alloc ?_ _ | refine Box.setOther ?_ (by simp <;> omega) _))), by (repeat (with_reducible (first | assumption | exact Below.refl _ _ | refine Below.setCell ?_ (by simp <;> omega) _ | refine Below.alloc ?_ (by simp <;> omega) _ | refine Below.drew ?_ | refine below_drewN ?_ _)))⟩
    · skip
      go_wp2
      refine hK.out _ _ (ext_alloc _ _) ?_
      clear hK K
      try simp only [Act.put, List.setIfInBounds_toArray, List.set_cons_zero, List.set_cons_succ]
      obtain ⟨wc, hwc⟩ : ∃ wc, wc = D := ⟨_, rfl⟩
      rw [← hwc] at hx b1 ⊢
      try rw [← hwc] at d9
      try rw [← hwc] at d11
      clear hwc
      have l2 := hx.size
      have l12 := b1.lt
      generalize hwn : World.alloc wc _ = wn
      have he : Ext wc wn := by rw [← hwn]; exact ext_alloc _ _
      have b2 : Box wn wc.heap.size 46 #[.slice none 0 0, .slice none 0 0] := by rw [← hwn]; exact Box.new _ _ _ (by simp)
      clear hwn
      have hx := ext_trans hx he
      have b1 := b1.ext he
      try (have d9 := d9.ext he)
      try (have d11 := d11.ext he)
      clear he
      refine uS 0 (by kernel_rfl) (by kernel_rfl) (by rfl) (by rfl) (fun K hK => ?_)
      go_wp2_with (go_at_call 47; refine (refNew_v _).mono ?_; rintro e wn ⟨v9, rfl, o9, he⟩)
      refine hK.out _ _ (he) ?_
      clear hK K
      try simp only [Act.put, List.setIfInBounds_toArray, List.set_cons_zero, List.set_cons_succ]
      have d9 := o9.v
      clear o9
      have hx := ext_trans hx he
      have b1 := b1.ext he
      try (have d9 := d9.ext he)
      try (have d11 := d11.ext he)
      try (have b2 := b2.ext he)
      clear he
      refine uS 2 (by kernel_rfl) (by kernel_rfl) (by rfl) (by rfl) (fun K hK => ?_)
      go_wp2_with (go_at_call 79; refine (rpPut_v (p := 2) (r := qR) (List.Subset.refl tD) (by decide) (Nat.zero_le _) d9 free_fine.ok (by decide) ⟨_, rfl, ByT.nil _ 0⟩).mono ?_; rintro e wp ⟨v11, q11, rfl, hq, d11, he⟩)
      refine hK.out _ _ (he) ?_
      clear hK K
      try simp only [Act.put, List.setIfInBounds_toArray, List.set_cons_zero, List.set_cons_succ]
      obtain rfl : q11 = 0 := hq.out.trans q2E
      clear hq
      have hx := ext_trans hx he
      have b1 := b1.ext he
      try (have d9 := d9.ext he)
      try (have d11 := d11.ext he)
      try (have b2 := b2.ext he)
      clear he
      obtain ⟨A11, n11, c11, E11, m11, e11, rfl, _, _, _, _, _, _⟩ := d11.form
      apply uF 3 (by kernel_rfl) (by rfl) (by rfl) (by rfl)
      · (intro w' hx; go_simp <;> with_reducible rfl)
      simp only [Act.put, List.setIfInBounds_toArray, List.set_cons_zero, List.set_cons_succ]
      apply uF 4 (by kernel_rfl) (by rfl) (by rfl) (by rfl)
      · (intro w' hx; go_simp <;> with_reducible rfl)
      simp only [Act.put, List.setIfInBounds_toArray, List.set_cons_zero, List.set_cons_succ]
      apply uU 5 (by kernel_rfl) (by rfl) (by rfl)
      · (intro w'; go_simp <;> with_reducible rfl)
      simp only [Act.put, List.setIfInBounds_toArray, List.set_cons_zero, List.set_cons_succ]
      refine uL 7 (by kernel_rfl) (by kernel_rfl) (by kernel_rfl) (by rfl) (by rfl) (fun K hK => ?_)
      have hK' := Lib.hid hK
      clear hK
      have k2 := b2.kd
      obtain ⟨b2_0, b2_1⟩ := b2.c2
      have b2_z := b2.free
      have b2_l := b2.lt
      go_wp2
      refine hK'.out _ _ ?_
      clear hK' K
      apply uU 8 (by kernel_rfl) (by rfl) (by rfl)
      · (intro w'; go_simp <;> with_reducible rfl)
      simp only [Act.put, List.setIfInBounds_toArray, List.set_cons_zero, List.set_cons_succ]
      refine uEnd (by kernel_rfl) ?_
      go_wp2_with fail
      go_meet
      exact ⟨⟨_, _, _, _, _, _, _, rfl, (b2.set 0 _).set 1 _, d11.kept (by (repeat (with_reducible (first | assumption | exact Kept.refl _ _ _ | (apply Kept.setK; rotate_left; (repeat (first | assumption | apply Kd.set | apply Kd.alloc | apply Kd.drew)); decide; omega) | refine Kept.allocK ?_ _ | refine Kept.drewK ?_))))⟩, rfl, by (repeat (with_reducible (first | assumption | refine Box.alloc ?_ _ | refine Box.setOther ?_ (by simp <;> omega) _))), by (repeat (with_reducible (first | assumption | exact Below.refl _ _ | refine Below.setCell ?_ (by simp <;> omega) _ | refine Below.alloc ?_ (by simp <;> omega) _ | refine Below.drew ?_ | refine below_drewN ?_ _)))⟩
  case rest =>
    obtain ⟨⟨g2, A2, n2, c2, E2, m2, e2, rfl, b2, d2⟩, rfl, b1, hx⟩ := hcut
    clear b1
    obtain ⟨b2_0, b2_1⟩ := b2.c2
    have b2_z := b2.free
    have b2_l := b2.lt
    go_wp2_with fail
    refine (ixScan_v d2 q2F.ok).mono ?_
    rintro e3 w3 ⟨v3, rfl, own3, he⟩
    try clear b2_0 b2_1 b2_z b2_l b2_0 b2_1 b2_z b2_l b2_0 b2_1 b2_z b2_l b2_0 b2_1 b2_z b2_l
    have hx := ext_trans hx he
    have b2 := b2.ext he
    clear he
    clear d2 b2
    rw [q2S] at own3
    have r3 := own3.row (T := [85]) (base := 0) (by decide) (Nat.le_refl _)
    clear own3
    obtain ⟨A3, n3, c3, rfl, hc3, hm3, HN3⟩ := r3.form
    obtain rfl : n3 = 1 := HN3.out
    clear HN3
    go_wp2_with fail
    refine (ixAdd_v (e := eB) r3 (by decide) (by decide) ⟨_, rfl, ByT.nil _ 0⟩ (by decide)).mono ?_
    rintro e4 w4 ⟨v4, l4, rfl, hp, hs, own4, he⟩
    have hx := ext_trans hx he
    have r3 := r3.ext he
    clear he
    obtain rfl := ins2 hp hs
    clear hp hs
    have r4 := own4.row (T := [85]) (base := 0) (by decide) (Nat.le_refl _)
    clear own4
    obtain ⟨A4, n4, c4, rfl, hc4, hm4, HN4⟩ := r4.form
    obtain rfl : n4 = 2 := HN4.out
    clear HN4
    go_wp2_with fail
    refine (ixLast_v (key := 7) r4 small2).mono ?_
    rintro e5 w5 ⟨v5, b5, rfl, hf5, he⟩
    have hx := ext_trans hx he
    have r3 := r3.ext he
    have r4 := r4.ext he
    clear he
    obtain ⟨hb5, hv5⟩ := hf5
    rw [show iLast [eA, eB] 7 = some eB by decide] at hb5 hv5
    obtain rfl : b5 = true := hb5
    obtain ⟨A5, n5, c5, rfl, _, hy5⟩ := hv5.at_
    go_upto_region 6 with (fail)
    generalize hwn : World.alloc w5 _ = w6
    have he : Ext w5 w6 := by rw [← hwn]; exact ext_alloc _ _
    have b6 : Box w6 w5.heap.size 85 #[.int .i64 3, .int .i64 7, .int .i64 4, .slice A5 n5 c5, .int .i64 0] := by rw [← hwn]; exact Box.new _ _ _ (by simp)
    clear hwn hy5 hv5
    have hx := ext_trans hx he
    have r3 := r3.ext he
    have r4 := r4.ext he
    clear he
    go_wp2_with fail
    refine (ixFind_v (k := 7) (x := 3) r4 small2).mono ?_
    rintro e7 w7 ⟨v7, b7, rfl, hf7, he⟩
    have hx := ext_trans hx he
    have r3 := r3.ext he
    have r4 := r4.ext he
    have b6 := b6.ext he
    clear he
    obtain ⟨hb7, hv7⟩ := hf7
    rw [show iFind [eA, eB] 7 3 = some eA by decide] at hb7 hv7
    obtain rfl : b7 = true := hb7
    obtain ⟨A7, n7, c7, rfl, _, hy7⟩ := hv7.at_
    go_upto_region 7 with (fail)
    generalize hwn : World.alloc w7 _ = w8
    have he : Ext w7 w8 := by rw [← hwn]; exact ext_alloc _ _
    have b8 : Box w8 w7.heap.size 85 #[.int .i64 2, .int .i64 7, .int .i64 3, .slice A7 n7 c7, .int .i64 2] := by rw [← hwn]; exact Box.new _ _ _ (by simp)
    clear hwn hy7 hv7
    have hx := ext_trans hx he
    have r3 := r3.ext he
    have r4 := r4.ext he
    have b6 := b6.ext he
    clear he
    obtain ⟨g3, o3, u3, rfl, hg3, hu3, f3⟩ := r3.ent_x (i := 0) (by omega)
    obtain ⟨z0, z1, z2, z3, z4⟩ := f3 _ (Below.refl _ _)
    simp only [List.getD_cons_zero, eA] at z4
    clear z0 z1 z2 z3 f3
    obtain ⟨b6_0, b6_1, b6_2, b6_3, b6_4⟩ := b6.c5
    have b6_z := b6.free
    have b6_l := b6.lt
    obtain ⟨b8_0, b8_1, b8_2, b8_3, b8_4⟩ := b8.c5
    have b8_z := b8.free
    have b8_l := b8.lt
    go_wp2_with fail
    refine (ixFree_v (p := 6) r4 (by omega)).mono ?_
    rintro e9 w9 ⟨rfl, he⟩
    try clear b6_0 b6_1 b6_2 b6_3 b6_4 b6_z b6_l b8_0 b8_1 b8_2 b8_3 b8_4 b8_z b8_l
    have hx := ext_trans hx he
    have r4 := r4.ext he
    have b6 := b6.ext he
    have b8 := b8.ext he
    clear he
    rw [show iFree [eA, eB] 6 = 1 by decide]
    clear z4
    obtain ⟨b6_0, b6_1, b6_2, b6_3, b6_4⟩ := b6.c5
    have b6_z := b6.free
    have b6_l := b6.lt
    obtain ⟨b8_0, b8_1, b8_2, b8_3, b8_4⟩ := b8.c5
    have b8_z := b8.free
    have b8_l := b8.lt
    go_wp2_with fail
    refine (ixDrop_v (p := 2) r4 (by decide) small2).mono ?_
    rintro e10 w10 ⟨v10, rfl, own10, he⟩
    try clear b6_0 b6_1 b6_2 b6_3 b6_4 b6_z b6_l b8_0 b8_1 b8_2 b8_3 b8_4 b8_z b8_l
    have hx := ext_trans hx he
    have r4 := r4.ext he
    have b6 := b6.ext he
    have b8 := b8.ext he
    clear he
    obtain ⟨A10, n10, c10, rfl, _, _, HN10⟩ := own10.form
    obtain rfl : n10 = 1 := HN10.out.trans (by decide)
    clear HN10 own10
    go_wp2_with fail
    refine (ixOwn_v r4 (by decide) small2).mono ?_
    rintro e11 w11 ⟨v11, rfl, own11, he⟩
    have hx := ext_trans hx he
    clear he
    obtain ⟨A11, n11, c11, rfl, _, _, HN11⟩ := own11.form
    obtain rfl : n11 = 2 := HN11.out
    clear HN11 own11
    go_wp2_with fail
    go_ret
    exact ⟨rfl, hx⟩
end Go.Proofs.Ytnganglmpcbcbaa

