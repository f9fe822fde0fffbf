/- Walks: the closed fact of chapter 10. -/
import Derived.Test.YtpidjkadpnjahaaFs7
import Derived.Test.YtpidjkadpnjahaaA5
import Derived.Test.YtpidjkadpnjahaaA4
namespace Go.Proofs.Ytpidjkadpnjahaa
open Go Go.RowKit
theorem clean_hows {d : Dsk} (h : dEven d) : ∀ p : Nat, p < 6 → (pLook (fClean d).1 p).1 = 0 ∨ (pLook (fClean d).1 p).1 = 1 := by
 intro p hp
 rw [fClean_eq h, clean_look _ hp]
 simp only
 split
 ·exact .inl rfl
 ·exact .inr rfl
def tD3 : Dsk := (pPut qD 4 qR).1
def tDF : Dsk := dFlush tD3
theorem tF3 : Fine tD3 4 := fine_D.put (by omega) 4 qR
theorem tFF : Fine tDF 0 := tF3.flush
theorem tG : dGood tDF := ⟨by decide +kernel, by decide +kernel, rfl⟩
theorem tTw : fTwice tDF = [4] := by decide +kernel
def xF : Dsk := ⟨fBlocks (fTell tDF [4]), []⟩
theorem tCl : fClean tDF = (xF, [0, 1, 0, 0, 1, 0], [4]) := by
 have hs : scHows tDF 6 = [0, 1, 0, 0, 1, 0] := by decide +kernel
 rw [fClean_eq tG.even, keep_good tG, tTw, hs]
 rfl
theorem tRep : repC [0, 1, 0, 0, 1, 0] = #[.int .i64 4, .int .i64 2, .int .i64 0, .int .i64 0, .int .i64 0, .int .i64 0] := rfl
theorem xG : dGood xF := fBlocks_good _ fun _ _ => fTell_right _ _ _
theorem tS1 : fSound tDF = false := by
 unfold fSound
 rw [tCl]
 decide +kernel
theorem tS2 : fSound xF = true := by
 have := (clean_sound tG.even).1
 rwa [tCl] at this
theorem tFit : fFits (iScan tDF) xF = false := by decide +kernel
theorem tFit2 : fFits (iScan xF) xF = true := esSame_id _
set_option maxRecDepth 100000 in
set_option maxHeartbeats 4000000 in
theorem alive10_w (w : World) : Calls Try.prog 86 #[] w fun e w' => e = .returned (.bool true) ∧ Ext w w' := by
 go_enter Try.func86, Try.ntmps86
 go_upto_region 2 with (fail)
 generalize hwn : World.alloc w _ = W
 have hx : Ext w W := by rw [← hwn]; exact ext_alloc _ _
 have b1 : Box W w.heap.size 30 #[.int .i64 2, .int .i64 7, .int .i64 3, .slice none 0 0] := by rw [← hwn]; exact Box.new _ _ _ (by simp)
 clear hwn
 go_cut [2, 3] from 8 to 14 (fun t2 _ wr => ∃ g A n c E m e, t2 = .pointer (some ⟨g, 0, none⟩) ∧ w.heap.size < g ∧ Box wr g 42 #[.slice A n c, .slice E m e] ∧ DskV tD wr 0 (.agg #[.slice A n c, .slice E m e]) qD ∧ Box wr w.heap.size 30 #[.int .i64 2, .int .i64 7, .int .i64 3, .slice none 0 0] ∧ Ext w wr)
 case first =>
  have hx := hx.drew
  have b1 := b1.drew
  refine wp_region_ue 9 [5, 8] [1, 3, 4, 5, 8] rfl (by kernel_rfl) (by kernel_rfl) ?_
  generalize W.drew = D at hx b1 ⊢
  apply uF 1 (by kernel_rfl) (by rfl) (by rfl) (by rfl)
  ·(intro w' hx; obtain ⟨x0, x1, x2, x3⟩ := (b1.ext hx).c4; go_simp <;> with_reducible rfl)
  simp only [pA, pB, pC, pD]
  refine uS2 0 6 (by kernel_rfl) (by kernel_rfl) (by rfl) (by rfl) (by rfl) (by rfl) (fun K hK => ?_) (fun K hK => ?_)
  ·skip
   go_wp2_with (go_at_call 36; refine (refNew_v _).mono ?_; rintro e wn ⟨v9, rfl, o9, he⟩)
   refine hK.out _ _ (he) ?_
   clear hK K
   try simp only [pA, pB, pC, pD]
   have d9 := o9.v
   clear o9
   have hx := ext_trans hx he
   have b1 := b1.ext he
   try (have d9 := d9.ext he)
   try (have d11 := d11.ext he)
   try (have b2 := b2.ext he)
   clear he
   refine uS2 2 6 (by kernel_rfl) (by kernel_rfl) (by rfl) (by rfl) (by rfl) (by rfl) (fun K hK => ?_) (fun K hK => ?_)
   ·skip
    go_wp2_with (go_at_call 65; refine (rpPut_v (p := 1) (r := qR) (List.Subset.refl tD) (by decide) (Nat.zero_le _) d9 free_fine.ok (by decide) ⟨_, rfl, ByT.nil _ 0⟩).mono ?_; rintro e wp ⟨v11, q11, rfl, _, d11, he⟩)
    refine hK.out _ _ (he) ?_
    clear hK K
    try simp only [pA, pB, pC, pD]
    have hx := ext_trans hx he
    have b1 := b1.ext he
    try (have d9 := d9.ext he)
    try (have d11 := d11.ext he)
    try (have b2 := b2.ext he)
    clear he
    obtain ⟨A11, n11, c11, E11, m11, e11, rfl, _, _, _, _, _, _⟩ := d11.form
    apply uF 3 (by kernel_rfl) (by rfl) (by rfl) (by rfl)
    ·(intro w' hx; go_simp <;> with_reducible rfl)
    simp only [pA, pB, pC, pD]
    apply uF 4 (by kernel_rfl) (by rfl) (by rfl) (by rfl)
    ·(intro w' hx; go_simp <;> with_reducible rfl)
    simp only [pA, pB, pC, pD]
    apply uU 5 (by kernel_rfl) (by rfl) (by rfl)
    ·(intro w'; go_simp <;> with_reducible rfl)
    simp only [pA, pB, pC, pD]
    refine uS 6 (by kernel_rfl) (by kernel_rfl) (by rfl) (by rfl) (fun K hK => ?_)
    go_wp2
    refine hK.out _ _ (ext_alloc _ _) ?_
    clear hK K
    try simp only [pA, pB, pC, pD]
    obtain ⟨wc, hwc⟩ : ∃ wc, wc = wp := ⟨_, rfl⟩
    rw [← hwc] at hx b1 ⊢
    try rw [← hwc] at d9
    try rw [← hwc] at d11
    clear hwc
    have l2 := hx.size
    have l12 := b1.lt
    generalize hwn : World.alloc wc _ = wn
    have he : Ext wc wn := by rw [← hwn]; exact ext_alloc _ _
    have b2 : Box wn wc.heap.size 42 #[.slice none 0 0, .slice none 0 0] := by rw [← hwn]; exact Box.new _ _ _ (by simp)
    clear hwn
    have hx := ext_trans hx he
    have b1 := b1.ext he
    try (have d9 := d9.ext he)
    try (have d11 := d11.ext he)
    clear he
    refine uL 7 (by kernel_rfl) (by kernel_rfl) (by kernel_rfl) (by rfl) (by rfl) (fun K hK => ?_)
    have hK' := Lib.hid hK
    clear hK
    have k2 := b2.kd
    obtain ⟨b2_0, b2_1⟩ := b2.c2
    have b2_z := b2.free
    have b2_l := b2.lt
    go_wp2
    refine hK'.out _ _ ?_
    clear hK' K
    apply uU 8 (by kernel_rfl) (by rfl) (by rfl)
    ·(intro w'; go_simp <;> with_reducible rfl)
    simp only [pA, pB, pC, pD]
    refine uEnd (by kernel_rfl) ?_
    go_wp2_with fail
    go_meet
    exact ⟨_, _, _, _, _, _, _, rfl, l12, (b2.set 0 _).set 1 _, d11.kept (by (repeat (with_reducible (first | assumption | exact Kept.refl _ _ _ | (apply Kept.setK; rotate_left; (repeat (first | assumption | apply Kd.set | apply Kd.alloc | apply Kd.drew)); decide; omega) | refine Kept.allocK ?_ _ | refine Kept.drewK ?_)))), by (repeat (with_reducible (first | assumption | refine Box.alloc ?_ _ | refine Box.setOther ?_ (by simp <;> omega) _))), by (repeat (with_reducible (first | assumption | exact Below.refl _ _ | refine Below.setCell ?_ (by simp <;> omega) _ | refine Below.alloc ?_ (by simp <;> omega) _ | refine Below.drew ?_ | refine below_drewN ?_ _)))⟩
   ·skip
    go_wp2
    refine hK.out _ _ (ext_alloc _ _) ?_
    clear hK K
    try simp only [pA, pB, pC, pD]
    obtain ⟨wc, hwc⟩ : ∃ wc, wc = wn := ⟨_, rfl⟩
    rw [← hwc] at hx b1 ⊢
    try rw [← hwc] at d9
    try rw [← hwc] at d11
    clear hwc
    have l2 := hx.size
    have l12 := b1.lt
    generalize hwn : World.alloc wc _ = wn
    have he : Ext wc wn := by rw [← hwn]; exact ext_alloc _ _
    have b2 : Box wn wc.heap.size 42 #[.slice none 0 0, .slice none 0 0] := by rw [← hwn]; exact Box.new _ _ _ (by simp)
    clear hwn
    have hx := ext_trans hx he
    have b1 := b1.ext he
    try (have d9 := d9.ext he)
    try (have d11 := d11.ext he)
    clear he
    refine uS 2 (by kernel_rfl) (by kernel_rfl) (by rfl) (by rfl) (fun K hK => ?_)
    go_wp2_with (go_at_call 65; refine (rpPut_v (p := 1) (r := qR) (List.Subset.refl tD) (by decide) (Nat.zero_le _) d9 free_fine.ok (by decide) ⟨_, rfl, ByT.nil _ 0⟩).mono ?_; rintro e wp ⟨v11, q11, rfl, _, d11, he⟩)
    refine hK.out _ _ (he) ?_
    clear hK K
    try simp only [pA, pB, pC, pD]
    have hx := ext_trans hx he
    have b1 := b1.ext he
    try (have d9 := d9.ext he)
    try (have d11 := d11.ext he)
    try (have b2 := b2.ext he)
    clear he
    obtain ⟨A11, n11, c11, E11, m11, e11, rfl, _, _, _, _, _, _⟩ := d11.form
    apply uF 3 (by kernel_rfl) (by rfl) (by rfl) (by rfl)
    ·(intro w' hx; go_simp <;> with_reducible rfl)
    simp only [pA, pB, pC, pD]
    apply uF 4 (by kernel_rfl) (by rfl) (by rfl) (by rfl)
    ·(intro w' hx; go_simp <;> with_reducible rfl)
    simp only [pA, pB, pC, pD]
    apply uU 5 (by kernel_rfl) (by rfl) (by rfl)
    ·(intro w'; go_simp <;> with_reducible rfl)
    simp only [pA, pB, pC, pD]
    refine uL 7 (by kernel_rfl) (by kernel_rfl) (by kernel_rfl) (by rfl) (by rfl) (fun K hK => ?_)
    have hK' := Lib.hid hK
    clear hK
    have k2 := b2.kd
    obtain ⟨b2_0, b2_1⟩ := b2.c2
    have b2_z := b2.free
    have b2_l := b2.lt
    go_wp2
    refine hK'.out _ _ ?_
    clear hK' K
    apply uU 8 (by kernel_rfl) (by rfl) (by rfl)
    ·(intro w'; go_simp <;> with_reducible rfl)
    simp only [pA, pB, pC, pD]
    refine uEnd (by kernel_rfl) ?_
    go_wp2_with fail
    go_meet
    exact ⟨_, _, _, _, _, _, _, rfl, l12, (b2.set 0 _).set 1 _, d11.kept (by (repeat (with_reducible (first | assumption | exact Kept.refl _ _ _ | (apply Kept.setK; rotate_left; (repeat (first | assumption | apply Kd.set | apply Kd.alloc | apply Kd.drew)); decide; omega) | refine Kept.allocK ?_ _ | refine Kept.drewK ?_)))), by (repeat (with_reducible (first | assumption | refine Box.alloc ?_ _ | refine Box.setOther ?_ (by simp <;> omega) _))), by (repeat (with_reducible (first | assumption | exact Below.refl _ _ | refine Below.setCell ?_ (by simp <;> omega) _ | refine Below.alloc ?_ (by simp <;> omega) _ | refine Below.drew ?_ | refine below_drewN ?_ _)))⟩
  ·skip
   go_wp2
   refine hK.out _ _ (ext_alloc _ _) ?_
   clear hK K
   try simp only [pA, pB, pC, pD]
   obtain ⟨wc, hwc⟩ : ∃ wc, wc = D := ⟨_, rfl⟩
   rw [← hwc] at hx b1 ⊢
   try rw [← hwc] at d9
   try rw [← hwc] at d11
   clear hwc
   have l2 := hx.size
   have l12 := b1.lt
   generalize hwn : World.alloc wc _ = wn
   have he : Ext wc wn := by rw [← hwn]; exact ext_alloc _ _
   have b2 : Box wn wc.heap.size 42 #[.slice none 0 0, .slice none 0 0] := by rw [← hwn]; exact Box.new _ _ _ (by simp)
   clear hwn
   have hx := ext_trans hx he
   have b1 := b1.ext he
   try (have d9 := d9.ext he)
   try (have d11 := d11.ext he)
   clear he
   refine uS 0 (by kernel_rfl) (by kernel_rfl) (by rfl) (by rfl) (fun K hK => ?_)
   go_wp2_with (go_at_call 36; refine (refNew_v _).mono ?_; rintro e wn ⟨v9, rfl, o9, he⟩)
   refine hK.out _ _ (he) ?_
   clear hK K
   try simp only [pA, pB, pC, pD]
   have d9 := o9.v
   clear o9
   have hx := ext_trans hx he
   have b1 := b1.ext he
   try (have d9 := d9.ext he)
   try (have d11 := d11.ext he)
   try (have b2 := b2.ext he)
   clear he
   refine uS 2 (by kernel_rfl) (by kernel_rfl) (by rfl) (by rfl) (fun K hK => ?_)
   go_wp2_with (go_at_call 65; refine (rpPut_v (p := 1) (r := qR) (List.Subset.refl tD) (by decide) (Nat.zero_le _) d9 free_fine.ok (by decide) ⟨_, rfl, ByT.nil _ 0⟩).mono ?_; rintro e wp ⟨v11, q11, rfl, _, d11, he⟩)
   refine hK.out _ _ (he) ?_
   clear hK K
   try simp only [pA, pB, pC, pD]
   have hx := ext_trans hx he
   have b1 := b1.ext he
   try (have d9 := d9.ext he)
   try (have d11 := d11.ext he)
   try (have b2 := b2.ext he)
   clear he
   obtain ⟨A11, n11, c11, E11, m11, e11, rfl, _, _, _, _, _, _⟩ := d11.form
   apply uF 3 (by kernel_rfl) (by rfl) (by rfl) (by rfl)
   ·(intro w' hx; go_simp <;> with_reducible rfl)
   simp only [pA, pB, pC, pD]
   apply uF 4 (by kernel_rfl) (by rfl) (by rfl) (by rfl)
   ·(intro w' hx; go_simp <;> with_reducible rfl)
   simp only [pA, pB, pC, pD]
   apply uU 5 (by kernel_rfl) (by rfl) (by rfl)
   ·(intro w'; go_simp <;> with_reducible rfl)
   simp only [pA, pB, pC, pD]
   refine uL 7 (by kernel_rfl) (by kernel_rfl) (by kernel_rfl) (by rfl) (by rfl) (fun K hK => ?_)
   have hK' := Lib.hid hK
   clear hK
   have k2 := b2.kd
   obtain ⟨b2_0, b2_1⟩ := b2.c2
   have b2_z := b2.free
   have b2_l := b2.lt
   go_wp2
   refine hK'.out _ _ ?_
   clear hK' K
   apply uU 8 (by kernel_rfl) (by rfl) (by rfl)
   ·(intro w'; go_simp <;> with_reducible rfl)
   simp only [pA, pB, pC, pD]
   refine uEnd (by kernel_rfl) ?_
   go_wp2_with fail
   go_meet
   exact ⟨_, _, _, _, _, _, _, rfl, l12, (b2.set 0 _).set 1 _, d11.kept (by (repeat (with_reducible (first | assumption | exact Kept.refl _ _ _ | (apply Kept.setK; rotate_left; (repeat (first | assumption | apply Kd.set | apply Kd.alloc | apply Kd.drew)); decide; omega) | refine Kept.allocK ?_ _ | refine Kept.drewK ?_)))), by (repeat (with_reducible (first | assumption | refine Box.alloc ?_ _ | refine Box.setOther ?_ (by simp <;> omega) _))), by (repeat (with_reducible (first | assumption | exact Below.refl _ _ | refine Below.setCell ?_ (by simp <;> omega) _ | refine Below.alloc ?_ (by simp <;> omega) _ | refine Below.drew ?_ | refine below_drewN ?_ _)))⟩
 case rest =>
  obtain ⟨g2, A2, n2, c2, E2, m2, e2, rfl, l12, b2, d2, b1, hx⟩ := hcut
  obtain ⟨b1_0, b1_1, b1_2, b1_3⟩ := b1.c4
  have b1_z := b1.free
  have b1_l := b1.lt
  obtain ⟨b2_0, b2_1⟩ := b2.c2
  have b2_z := b2.free
  have b2_l := b2.lt
  go_wp2_with fail
  refine (rpPut_v (p := 4) (r := qR) (List.Subset.refl tD) (by decide) (Nat.zero_le _) d2 fine_D.ok (by have := fine_D.late; omega) ⟨_, rfl, ByT.nil _ 0⟩).mono ?_
  rintro e3 w3 ⟨v3, q3, rfl, _, d3, he⟩
  try clear b2_0 b2_1 b2_z b2_l b2_0 b2_1 b2_z b2_l b2_0 b2_1 b2_z b2_l b1_0 b1_1 b1_2 b1_3 b1_z b1_l b2_0 b2_1 b2_z b2_l
  have hx := ext_trans hx he
  have b1 := b1.ext he
  have b2 := b2.ext he
  clear he
  clear d2 b1
  obtain ⟨A3, n3, c3, E3, m3, e3, rfl, _, _, _, _, _, _⟩ := d3.form
  have k2 := b2.kd
  obtain ⟨b2_0, b2_1⟩ := b2.c2
  have b2_z := b2.free
  have b2_l := b2.lt
  go_upto_region 4 with (fail)
  try clear b2_0 b2_1 b2_z b2_l
  generalize hwn : World.setCell (World.setCell w3 _ _) _ _ = w4
  have d3 : DskV tD w4 0 (.agg #[.slice A3 n3 c3, .slice E3 m3 e3]) tD3 := d3.kept (by rw [← hwn]; (repeat (with_reducible (first | assumption | exact Kept.refl _ _ _ | (apply Kept.setK; rotate_left; (repeat (first | assumption | apply Kd.set | apply Kd.alloc | apply Kd.drew)); decide; omega) | refine Kept.allocK ?_ _ | refine Kept.drewK ?_))))
  have hx : Ext w w4 := by rw [← hwn]; (repeat (with_reducible (first | assumption | exact Below.refl _ _ | refine Below.setCell ?_ (by simp <;> omega) _ | refine Below.alloc ?_ (by simp <;> omega) _ | refine Below.drew ?_ | refine below_drewN ?_ _)))
  have b2 : Box w4 g2 42 #[.slice A3 n3 c3, .slice E3 m3 e3] := by rw [← hwn]; exact (b2.set 0 _).set 1 _
  clear hwn k2
  obtain ⟨b2_0, b2_1⟩ := b2.c2
  have b2_z := b2.free
  have b2_l := b2.lt
  go_wp2_with fail
  refine (refFlush_v (T := tD) (List.Subset.refl _) (Nat.zero_le _) d3 tF3.ok tF3.inn).mono ?_
  rintro e5 w5 ⟨v5, rfl, d5, he⟩
  try clear b2_0 b2_1 b2_z b2_l
  have hx := ext_trans hx he
  have b2 := b2.ext he
  clear he
  clear d3
  obtain ⟨A5, n5, c5, E5, m5, e5, rfl, _, _, _, _, _, _⟩ := d5.form
  have k2 := b2.kd
  obtain ⟨b2_0, b2_1⟩ := b2.c2
  have b2_z := b2.free
  have b2_l := b2.lt
  go_upto_region 5 with (fail)
  try clear b2_0 b2_1 b2_z b2_l
  generalize hwn : World.setCell (World.setCell w5 _ _) _ _ = w6
  have d5 : DskV tD w6 0 (.agg #[.slice A5 n5 c5, .slice E5 m5 e5]) tDF := d5.kept (by rw [← hwn]; (repeat (with_reducible (first | assumption | exact Kept.refl _ _ _ | (apply Kept.setK; rotate_left; (repeat (first | assumption | apply Kd.set | apply Kd.alloc | apply Kd.drew)); decide; omega) | refine Kept.allocK ?_ _ | refine Kept.drewK ?_))))
  have hx : Ext w w6 := by rw [← hwn]; (repeat (with_reducible (first | assumption | exact Below.refl _ _ | refine Below.setCell ?_ (by simp <;> omega) _ | refine Below.alloc ?_ (by simp <;> omega) _ | refine Below.drew ?_ | refine below_drewN ?_ _)))
  have b2 : Box w6 g2 42 #[.slice A5 n5 c5, .slice E5 m5 e5] := by rw [← hwn]; exact (b2.set 0 _).set 1 _
  clear hwn k2
  obtain ⟨b2_0, b2_1⟩ := b2.c2
  have b2_z := b2.free
  have b2_l := b2.lt
  go_wp2_with fail
  refine (fClean_v d5 tFF tG.len).mono ?_
  rintro e7 w7 ⟨v7, tw7, rfl, d7, r7, he⟩
  try clear b2_0 b2_1 b2_z b2_l
  have hx := ext_trans hx he
  have b2 := b2.ext he
  have d5 := d5.ext he
  clear he
  rw [tCl] at d7 r7 ⊢
  simp only at d7 r7
  simp only [tRep]
  obtain ⟨A7, n7, c7, E7, m7, e7, rfl, _, _, _, _, _, _⟩ := d7.form
  obtain ⟨A8, n8, c8, rfl, hc8, hm8, HN8⟩ := r7.form
  obtain rfl : n8 = 1 := HN8.out
  clear HN8
  unfold maxLen at hm8
  go_upto_region 6 with (fail)
  generalize hwn : World.alloc (World.alloc w7 _) _ = w8
  have he : Ext w7 w8 := by rw [← hwn]; exact (ext_alloc _ _).alloc (by simp) _
  have b4 : Box w8 w7.heap.size 42 #[.slice A7 n7 c7, .slice E7 m7 e7] := by rw [← hwn]; exact (Box.new _ _ _ (by simp)).alloc _
  have b5 : Box w8 (w7.heap.size + 1) 89 #[.int .i64 4, .int .i64 2, .int .i64 0, .int .i64 0, .int .i64 0, .int .i64 0] := by rw [← hwn]; exact Box.new _ _ _ (by simp)
  clear hwn
  have hx := ext_trans hx he
  have b2 := b2.ext he
  have d5 := d5.ext he
  have d7 := d7.ext he
  have r7 := r7.ext he
  clear he
  have hd : Ext w8 w8.drew := (Below.refl _ _).drew
  have hx := ext_trans hx hd
  have b2 := b2.ext hd
  have b4 := b4.ext hd
  have b5 := b5.ext hd
  have d5 := d5.ext hd
  have d7 := d7.ext hd
  have r7 := r7.ext hd
  clear hd
  refine wp_region_ext 44 [0, 1, 2, 3, 4, 5, 6, 7, 8, 9, 10, 11, 12, 13, 14, 15, 16, 18, 19, 20, 21, 23, 24, 25, 27, 28, 29, 30, 31, 33, 35, 36, 37, 39, 41, 42, 43] false rfl (by kernel_rfl) (by kernel_rfl) ?_
  generalize w8.drew = D at hx b2 b4 b5 d5 d7 r7 ⊢
  obtain ⟨g8, o8, rfl, _, _⟩ := r7.int_at (i := 0) (by omega)
  have f8 := fun w' (hx' : Ext D w') => (r7.ext hx').int_at (i := 0) (by omega)
  simp only [List.getD_cons_zero, Nat.add_zero] at f8
  apply mixF 0 (by kernel_rfl) (by rfl) (by rfl)
  ·(intro w' hx; obtain ⟨_, _, e3, _, y0⟩ := f8 _ hx; cases e3; obtain ⟨x0, x1, x2, x3, x4, x5⟩ := (b5.ext hx).c6; obtain ⟨z0, z1⟩ := (b2.ext hx).c2; go_simp <;> with_reducible rfl)
  simp only [pA, pB, pC, pD]
  apply mixF 1 (by kernel_rfl) (by rfl) (by rfl)
  ·(intro w' hx; obtain ⟨_, _, e3, _, y0⟩ := f8 _ hx; cases e3; obtain ⟨x0, x1, x2, x3, x4, x5⟩ := (b5.ext hx).c6; obtain ⟨z0, z1⟩ := (b2.ext hx).c2; go_simp <;> with_reducible rfl)
  simp only [pA, pB, pC, pD]
  apply mixF 2 (by kernel_rfl) (by rfl) (by rfl)
  ·(intro w' hx; obtain ⟨_, _, e3, _, y0⟩ := f8 _ hx; cases e3; obtain ⟨x0, x1, x2, x3, x4, x5⟩ := (b5.ext hx).c6; obtain ⟨z0, z1⟩ := (b2.ext hx).c2; go_simp <;> with_reducible rfl)
  simp only [pA, pB, pC, pD]
  apply mixF 3 (by kernel_rfl) (by rfl) (by rfl)
  ·(intro w' hx; obtain ⟨_, _, e3, _, y0⟩ := f8 _ hx; cases e3; obtain ⟨x0, x1, x2, x3, x4, x5⟩ := (b5.ext hx).c6; obtain ⟨z0, z1⟩ := (b2.ext hx).c2; go_simp <;> with_reducible rfl)
  simp only [pA, pB, pC, pD]
  apply mixF 4 (by kernel_rfl) (by rfl) (by rfl)
  ·(intro w' hx; obtain ⟨_, _, e3, _, y0⟩ := f8 _ hx; cases e3; obtain ⟨x0, x1, x2, x3, x4, x5⟩ := (b5.ext hx).c6; obtain ⟨z0, z1⟩ := (b2.ext hx).c2; go_simp <;> with_reducible rfl)
  simp only [pA, pB, pC, pD]
  apply mixF 5 (by kernel_rfl) (by rfl) (by rfl)
  ·(intro w' hx; obtain ⟨_, _, e3, _, y0⟩ := f8 _ hx; cases e3; obtain ⟨x0, x1, x2, x3, x4, x5⟩ := (b5.ext hx).c6; obtain ⟨z0, z1⟩ := (b2.ext hx).c2; go_simp <;> with_reducible rfl)
  simp only [pA, pB, pC, pD]
  apply mixF 6 (by kernel_rfl) (by rfl) (by rfl)
  ·(intro w' hx; obtain ⟨_, _, e3, _, y0⟩ := f8 _ hx; cases e3; obtain ⟨x0, x1, x2, x3, x4, x5⟩ := (b5.ext hx).c6; obtain ⟨z0, z1⟩ := (b2.ext hx).c2; go_simp <;> with_reducible rfl)
  simp only [pA, pB, pC, pD]
  apply mixF 7 (by kernel_rfl) (by rfl) (by rfl)
  ·(intro w' hx; obtain ⟨_, _, e3, _, y0⟩ := f8 _ hx; cases e3; obtain ⟨x0, x1, x2, x3, x4, x5⟩ := (b5.ext hx).c6; obtain ⟨z0, z1⟩ := (b2.ext hx).c2; go_simp <;> with_reducible rfl)
  simp only [pA, pB, pC, pD]
  apply mixF 8 (by kernel_rfl) (by rfl) (by rfl)
  ·(intro w' hx; obtain ⟨_, _, e3, _, y0⟩ := f8 _ hx; cases e3; obtain ⟨x0, x1, x2, x3, x4, x5⟩ := (b5.ext hx).c6; obtain ⟨z0, z1⟩ := (b2.ext hx).c2; go_simp <;> with_reducible rfl)
  simp only [pA, pB, pC, pD]
  apply mixF 9 (by kernel_rfl) (by rfl) (by rfl)
  ·(intro w' hx; obtain ⟨_, _, e3, _, y0⟩ := f8 _ hx; cases e3; obtain ⟨x0, x1, x2, x3, x4, x5⟩ := (b5.ext hx).c6; obtain ⟨z0, z1⟩ := (b2.ext hx).c2; go_simp <;> with_reducible rfl)
  simp only [pA, pB, pC, pD]
  apply mixF 10 (by kernel_rfl) (by rfl) (by rfl)
  ·(intro w' hx; obtain ⟨_, _, e3, _, y0⟩ := f8 _ hx; cases e3; obtain ⟨x0, x1, x2, x3, x4, x5⟩ := (b5.ext hx).c6; obtain ⟨z0, z1⟩ := (b2.ext hx).c2; go_simp <;> with_reducible rfl)
  simp only [pA, pB, pC, pD]
  apply mixF 11 (by kernel_rfl) (by rfl) (by rfl)
  ·(intro w' hx; obtain ⟨_, _, e3, _, y0⟩ := f8 _ hx; cases e3; obtain ⟨x0, x1, x2, x3, x4, x5⟩ := (b5.ext hx).c6; obtain ⟨z0, z1⟩ := (b2.ext hx).c2; go_simp <;> with_reducible rfl)
  simp only [pA, pB, pC, pD]
  apply mixF 12 (by kernel_rfl) (by rfl) (by rfl)
  ·(intro w' hx; obtain ⟨_, _, e3, _, y0⟩ := f8 _ hx; cases e3; obtain ⟨x0, x1, x2, x3, x4, x5⟩ := (b5.ext hx).c6; obtain ⟨z0, z1⟩ := (b2.ext hx).c2; go_simp <;> with_reducible rfl)
  simp only [pA, pB, pC, pD]
  apply mixF 13 (by kernel_rfl) (by rfl) (by rfl)
  ·(intro w' hx; obtain ⟨_, _, e3, _, y0⟩ := f8 _ hx; cases e3; obtain ⟨x0, x1, x2, x3, x4, x5⟩ := (b5.ext hx).c6; obtain ⟨z0, z1⟩ := (b2.ext hx).c2; go_simp <;> with_reducible rfl)
  simp only [pA, pB, pC, pD]
  apply mixF 14 (by kernel_rfl) (by rfl) (by rfl)
  ·(intro w' hx; obtain ⟨_, _, e3, _, y0⟩ := f8 _ hx; cases e3; obtain ⟨x0, x1, x2, x3, x4, x5⟩ := (b5.ext hx).c6; obtain ⟨z0, z1⟩ := (b2.ext hx).c2; go_simp <;> with_reducible rfl)
  simp only [pA, pB, pC, pD]
  apply mixF 15 (by kernel_rfl) (by rfl) (by rfl)
  ·(intro w' hx; obtain ⟨_, _, e3, _, y0⟩ := f8 _ hx; cases e3; obtain ⟨x0, x1, x2, x3, x4, x5⟩ := (b5.ext hx).c6; obtain ⟨z0, z1⟩ := (b2.ext hx).c2; go_simp <;> with_reducible rfl)
  simp only [pA, pB, pC, pD]
  apply mixF 16 (by kernel_rfl) (by rfl) (by rfl)
  ·(intro w' hx; obtain ⟨_, _, e3, _, y0⟩ := f8 _ hx; cases e3; obtain ⟨x0, x1, x2, x3, x4, x5⟩ := (b5.ext hx).c6; obtain ⟨z0, z1⟩ := (b2.ext hx).c2; go_simp <;> with_reducible rfl)
  simp only [pA, pB, pC, pD]
  clear f8 r7 b5
  refine mixS 17 (by kernel_rfl) (by kernel_rfl) (by rfl) (by rfl) (fun K hK => ?_)
  go_wp2_with (go_at_call 83; refine (fSound_v d5 tFF tG.len).mono ?_; rintro e w9 ⟨rfl, he⟩)
  refine hK.out _ _ (he) ?_
  clear hK K
  try simp only [pA, pB, pC, pD]
  rw [tS1]
  have hx := ext_trans hx he
  have b2 := b2.ext he
  have b4 := b4.ext he
  have d5 := d5.ext he
  have d7 := d7.ext he
  clear he
  apply mixF 18 (by kernel_rfl) (by rfl) (by rfl)
  ·(intro w' hx; obtain ⟨z0, z1⟩ := (b4.ext hx).c2; go_simp <;> with_reducible rfl)
  simp only [pA, pB, pC, pD]
  apply mixF 19 (by kernel_rfl) (by rfl) (by rfl)
  ·(intro w' hx; obtain ⟨z0, z1⟩ := (b4.ext hx).c2; go_simp <;> with_reducible rfl)
  simp only [pA, pB, pC, pD]
  apply mixF 20 (by kernel_rfl) (by rfl) (by rfl)
  ·(intro w' hx; obtain ⟨z0, z1⟩ := (b4.ext hx).c2; go_simp <;> with_reducible rfl)
  simp only [pA, pB, pC, pD]
  apply mixF 21 (by kernel_rfl) (by rfl) (by rfl)
  ·(intro w' hx; obtain ⟨z0, z1⟩ := (b4.ext hx).c2; go_simp <;> with_reducible rfl)
  simp only [pA, pB, pC, pD]
  refine mixS 22 (by kernel_rfl) (by kernel_rfl) (by rfl) (by rfl) (fun K hK => ?_)
  go_wp2_with (go_at_call 83; refine (fSound_v d7 (good_fine xG) xG.len).mono ?_; rintro e w10 ⟨rfl, he⟩)
  refine hK.out _ _ (he) ?_
  clear hK K
  try simp only [pA, pB, pC, pD]
  rw [tS2]
  have hx := ext_trans hx he
  have b2 := b2.ext he
  have b4 := b4.ext he
  have d5 := d5.ext he
  have d7 := d7.ext he
  clear he
  apply mixF 23 (by kernel_rfl) (by rfl) (by rfl)
  ·(intro w' hx; obtain ⟨z0, z1⟩ := (b2.ext hx).c2; go_simp <;> with_reducible rfl)
  simp only [pA, pB, pC, pD]
  apply mixF 24 (by kernel_rfl) (by rfl) (by rfl)
  ·(intro w' hx; obtain ⟨z0, z1⟩ := (b2.ext hx).c2; go_simp <;> with_reducible rfl)
  simp only [pA, pB, pC, pD]
  apply mixF 25 (by kernel_rfl) (by rfl) (by rfl)
  ·(intro w' hx; obtain ⟨z0, z1⟩ := (b2.ext hx).c2; go_simp <;> with_reducible rfl)
  simp only [pA, pB, pC, pD]
  refine mixS 26 (by kernel_rfl) (by kernel_rfl) (by rfl) (by rfl) (fun K hK => ?_)
  go_wp2_with (go_at_call 82; refine (fTwice_v d5 tFF.ok).mono ?_; rintro e w11 ⟨v11, rfl, o11, he⟩)
  refine hK.out _ _ (he) ?_
  clear hK K
  try simp only [pA, pB, pC, pD]
  rw [tTw] at o11
  have r11 := o11.row (T := [3]) (base := 0) (by decide) (Nat.le_refl _)
  clear o11
  obtain ⟨A11, n11, c11, rfl, _, _, HN11⟩ := r11.form
  obtain rfl : n11 = 1 := HN11.out
  clear HN11 r11
  have hx := ext_trans hx he
  have b2 := b2.ext he
  have b4 := b4.ext he
  have d5 := d5.ext he
  have d7 := d7.ext he
  clear he
  apply mixF 27 (by kernel_rfl) (by rfl) (by rfl)
  ·(intro w' hx; obtain ⟨z0, z1⟩ := (b4.ext hx).c2; go_simp <;> with_reducible rfl)
  simp only [pA, pB, pC, pD]
  apply mixF 28 (by kernel_rfl) (by rfl) (by rfl)
  ·(intro w' hx; obtain ⟨z0, z1⟩ := (b4.ext hx).c2; go_simp <;> with_reducible rfl)
  simp only [pA, pB, pC, pD]
  apply mixF 29 (by kernel_rfl) (by rfl) (by rfl)
  ·(intro w' hx; obtain ⟨z0, z1⟩ := (b4.ext hx).c2; go_simp <;> with_reducible rfl)
  simp only [pA, pB, pC, pD]
  apply mixF 30 (by kernel_rfl) (by rfl) (by rfl)
  ·(intro w' hx; obtain ⟨z0, z1⟩ := (b4.ext hx).c2; go_simp <;> with_reducible rfl)
  simp only [pA, pB, pC, pD]
  apply mixF 31 (by kernel_rfl) (by rfl) (by rfl)
  ·(intro w' hx; obtain ⟨z0, z1⟩ := (b4.ext hx).c2; go_simp <;> with_reducible rfl)
  simp only [pA, pB, pC, pD]
  apply mixF 33 (by kernel_rfl) (by rfl) (by rfl)
  ·(intro w' hx; obtain ⟨z0, z1⟩ := (b4.ext hx).c2; go_simp <;> with_reducible rfl)
  simp only [pA, pB, pC, pD]
  refine mixS 32 (by kernel_rfl) (by kernel_rfl) (by rfl) (by rfl) (fun K hK => ?_)
  go_wp2_with (go_at_call 70; refine (refScan_v d7 (good_fine xG).ok).mono ?_; rintro e w12 ⟨v12, rfl, o12, he⟩)
  refine hK.out _ _ (he) ?_
  clear hK K
  try simp only [pA, pB, pC, pD]
  have hx := ext_trans hx he
  have b2 := b2.ext he
  have b4 := b4.ext he
  have d5 := d5.ext he
  have d7 := d7.ext he
  clear he
  refine mixS 34 (by kernel_rfl) (by kernel_rfl) (by rfl) (by rfl) (fun K hK => ?_)
  go_wp2_with (go_at_call 85; refine (fFits_v (o12.row (T := [74]) (base := 0) (by decide) (Nat.le_refl _)) d7 (good_fine xG).ok).mono ?_; rintro e w13 ⟨rfl, he⟩)
  refine hK.out _ _ (he) ?_
  clear hK K
  try simp only [pA, pB, pC, pD]
  rw [tFit2]
  have hx := ext_trans hx he
  have b2 := b2.ext he
  have b4 := b4.ext he
  have d5 := d5.ext he
  have d7 := d7.ext he
  clear he o12
  apply mixF 35 (by kernel_rfl) (by rfl) (by rfl)
  ·(intro w' hx; obtain ⟨z0, z1⟩ := (b2.ext hx).c2; obtain ⟨y0, y1⟩ := (b4.ext hx).c2; go_simp <;> with_reducible rfl)
  simp only [pA, pB, pC, pD]
  apply mixF 36 (by kernel_rfl) (by rfl) (by rfl)
  ·(intro w' hx; obtain ⟨z0, z1⟩ := (b2.ext hx).c2; obtain ⟨y0, y1⟩ := (b4.ext hx).c2; go_simp <;> with_reducible rfl)
  simp only [pA, pB, pC, pD]
  apply mixF 37 (by kernel_rfl) (by rfl) (by rfl)
  ·(intro w' hx; obtain ⟨z0, z1⟩ := (b2.ext hx).c2; obtain ⟨y0, y1⟩ := (b4.ext hx).c2; go_simp <;> with_reducible rfl)
  simp only [pA, pB, pC, pD]
  apply mixF 39 (by kernel_rfl) (by rfl) (by rfl)
  ·(intro w' hx; obtain ⟨z0, z1⟩ := (b2.ext hx).c2; obtain ⟨y0, y1⟩ := (b4.ext hx).c2; go_simp <;> with_reducible rfl)
  simp only [pA, pB, pC, pD]
  refine mixS 38 (by kernel_rfl) (by kernel_rfl) (by rfl) (by rfl) (fun K hK => ?_)
  go_wp2_with (go_at_call 70; refine (refScan_v d5 tFF.ok).mono ?_; rintro e w14 ⟨v14, rfl, o14, he⟩)
  refine hK.out _ _ (he) ?_
  clear hK K
  try simp only [pA, pB, pC, pD]
  have hx := ext_trans hx he
  have d7 := d7.ext he
  clear he
  refine mixS 40 (by kernel_rfl) (by kernel_rfl) (by rfl) (by rfl) (fun K hK => ?_)
  go_wp2_with (go_at_call 85; refine (fFits_v (o14.row (T := [74]) (base := 0) (by decide) (Nat.le_refl _)) d7 (good_fine xG).ok).mono ?_; rintro e w15 ⟨rfl, he⟩)
  refine hK.out _ _ (he) ?_
  clear hK K
  try simp only [pA, pB, pC, pD]
  rw [tFit]
  have hx := ext_trans hx he
  clear he o14
  apply mixF 41 (by kernel_rfl) (by rfl) (by rfl)
  ·(intro w' hx; go_simp <;> with_reducible rfl)
  simp only [pA, pB, pC, pD]
  apply mixF 42 (by kernel_rfl) (by rfl) (by rfl)
  ·(intro w' hx; go_simp <;> with_reducible rfl)
  simp only [pA, pB, pC, pD]
  apply mixF 43 (by kernel_rfl) (by rfl) (by rfl)
  ·(intro w' hx; go_simp <;> with_reducible rfl)
  simp only [pA, pB, pC]
  refine mixEnd (by kernel_rfl) ?_
  go_wp2_with fail
  go_ret
  exact ⟨rfl, hx⟩
end Go.Proofs.Ytpidjkadpnjahaa
