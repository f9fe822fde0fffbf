/- The statement PairSpoil: the walk of the law. -/
import Derived.Test.YtnganglmpcbcbaaAlive4
namespace Go.Proofs.Ytnganglmpcbcbaa
open Go Go.RowKit

theorem pIn_flush {d : Dsk} {p : Int} (h : pIn d p) : pIn (dFlush d) p := by
  unfold pIn at h ⊢
  rw [show (dFlush d).blocks.length = d.blocks.length from fTo_length _ _ _]
  exact h
theorem free_in {p : Int} (h0 : 0 ≤ p) (h6 : p < 6) : pIn dFree p := by
  unfold pIn
  rw [show dFree.blocks.length = 12 by decide]
  omega
theorem free_blocks (j : Nat) (hj : j < dFree.blocks.length) : dFree.blocks.getD j [] = rBytes rFree (j : Int) := by
  have hj' : j < 12 := by simpa [dFree] using hj
  unfold dFree
  rw [List.getD_eq_getElem?_getD, List.getElem?_map, List.getElem?_range hj']
  rfl
theorem keep_one {p : Int} (h0 : 0 ≤ p) (h6 : p < 6) {r : Rec} (hr : rWrong r = 0) (hk : r.kind ≠ 1) {side : Int} (hs : side = 0 ∨ side = 1) : pLook (dKeep (pPut dFree p r).1 (1 + side)) p = (2, r) :=
  pKeep_one (bs := dFree.blocks) (free_in h0 h6) (by omega) free_blocks hr hk hs
set_option maxRecDepth 100000 in
set_option maxHeartbeats 4000000 in
theorem pairSpoil_law (w : World) {v rv : Value} {d : Dsk} {r : Rec} {p n y s : Int} (h : DskV tD w w.heap.size v d) (hr : RecV w w.heap.size rv r) :
    Calls Try.prog 16 #[v, .int .i64 p, rv, .int .i64 n, .int .i64 y, .int .i64 s] w fun e w' => e = .returned (.bool true) ∧ Ext w w' := by
  obtain ⟨A, na, c, E, m, e, rfl, HN, HM, hb, hl, hnc, hme⟩ := h.form
  obtain ⟨A2, n2, c2, rfl, _, hy⟩ := hr.at_
  clear hb hl HN HM hy
  have HT : Hid (tD ⊆ tD) := List.Subset.refl _
  go_enter Try.func16, Try.ntmps16
  go_upto_region 1 with (fail)
  generalize hwn : World.alloc (World.alloc w _) _ = W
  have hx : Ext w W := by rw [← hwn]; (repeat (with_reducible (first | assumption | exact Below.refl _ _ | refine Below.setCell ?_ (by simp <;> omega) _ | refine Below.alloc ?_ (by simp <;> omega) _ | refine Below.drew ?_ | refine below_drewN ?_ _)))
  have b6 : Box W w.heap.size 46 #[.slice A na c, .slice E m e] := by rw [← hwn]; exact (Box.new _ _ _ rfl).alloc _
  have b8 : Box W (w.heap.size + 1) 32 #[.int .i64 r.kind, .int .i64 r.key, .int .i64 r.ver, .slice A2 n2 c2] := by rw [← hwn]; exact Box.new _ _ _ (by simp)
  clear hwn
  obtain ⟨g8, hg8⟩ : ∃ g, g = w.heap.size + 1 := ⟨_, rfl⟩
  have l8 : w.heap.size ≤ g8 := by omega
  rw [← hg8] at b8 ⊢
  clear hg8
  have h := h.ext hx
  have hr := hr.ext hx
  go_wp2_with fail
  refine (alive4_w _).mono ?_
  rintro e0 w0 ⟨rfl, he⟩
  have hx := ext_trans hx he
  have h := h.ext he
  have hr := hr.ext he
  have b6 := b6.ext he
  have b8 := b8.ext he
  clear he
  obtain ⟨b6_0, b6_1⟩ := b6.c2
  have b6_z := b6.free
  have b6_l := b6.lt
  go_wp2_with fail
  refine (rightDisk_v h).mono ?_
  rintro e1 w1 ⟨rfl, he⟩
  try clear b6_0 b6_1 b6_z b6_l
  have hx := ext_trans hx he
  have h := h.ext he
  have hr := hr.ext he
  have b6 := b6.ext he
  have b8 := b8.ext he
  clear he
  cases hrd : dRight d with
  | false =>
    go_wp2_with fail
    go_ret
    exact ⟨rfl, hx⟩
  | true =>
    by_cases h0 : p < 0
    · have q0 : decide (p < 0) = true := by simpa using h0
      go_wp2_with fail
      go_ret
      exact ⟨rfl, hx⟩
    have q0 : decide (p < 0) = false := by simpa using h0
    by_cases h6 : 6 ≤ p
    · have q1 : decide (6 ≤ p) = true := by simpa using h6
      go_wp2_with fail
      go_ret
      exact ⟨rfl, hx⟩
    have q1 : decide (6 ≤ p) = false := by simpa using h6
    have HF := Lib.hid (dRight_fine hrd)
    have PI := Lib.hid (dRight_in hrd (by omega) (by omega : p < 6))
    clear hrd
    obtain ⟨b8_0, b8_1, b8_2, b8_3⟩ := b8.c4
    have b8_z := b8.free
    have b8_l := b8.lt
    go_wp2_with fail
    refine (refWrong_v hr).mono ?_
    rintro e2 w2 ⟨rfl, he⟩
    try clear b8_0 b8_1 b8_2 b8_3 b8_z b8_l
    have hx := ext_trans hx he
    have h := h.ext he
    have hr := hr.ext he
    have b6 := b6.ext he
    have b8 := b8.ext he
    clear he
    by_cases hw : rWrong r = 0
    case neg =>
      have q2 : (rWrong r != 0) = true := by simpa using hw
      clear hw
      go_wp2_with fail
      go_ret
      exact ⟨rfl, hx⟩
    have q2 : (rWrong r != 0) = false := by simpa using hw
    have HW := Lib.hid hw
    clear hw
    by_cases hk : r.kind = 1
    · have q3 : (r.kind == 1) = true := by simpa using hk
      clear hk
      obtain ⟨b8_0, b8_1, b8_2, b8_3⟩ := b8.c4
      have b8_z := b8.free
      have b8_l := b8.lt
      go_wp2_with fail
      go_ret
      exact ⟨rfl, hx⟩
    have q3 : (r.kind == 1) = false := by simpa using hk
    have HK := Lib.hid hk
    clear hk
    by_cases n0 : n < 0
    · have q4 : decide (n < 0) = true := by simpa using n0
      try clear b8_0 b8_1 b8_2 b8_3 b8_z b8_l
      obtain ⟨b8_0, b8_1, b8_2, b8_3⟩ := b8.c4
      have b8_z := b8.free
      have b8_l := b8.lt
      go_wp2_with fail
      go_ret
      exact ⟨rfl, hx⟩
    have q4 : decide (n < 0) = false := by simpa using n0
    by_cases n16 : 16 ≤ n
    · have q5 : decide (16 ≤ n) = true := by simpa using n16
      try clear b8_0 b8_1 b8_2 b8_3 b8_z b8_l
      obtain ⟨b8_0, b8_1, b8_2, b8_3⟩ := b8.c4
      have b8_z := b8.free
      have b8_l := b8.lt
      go_wp2_with fail
      go_ret
      exact ⟨rfl, hx⟩
    have q5 : decide (16 ≤ n) = false := by simpa using n16
    have qa := and_255 y
    by_cases y0 : y % 256 = 0
    · have q6 : (y % 256 == 0) = true := by simpa using y0
      clear y0
      try clear b8_0 b8_1 b8_2 b8_3 b8_z b8_l
      obtain ⟨b8_0, b8_1, b8_2, b8_3⟩ := b8.c4
      have b8_z := b8.free
      have b8_l := b8.lt
      go_wp2_with fail
      go_ret
      exact ⟨rfl, hx⟩
    have q6 : (y % 256 == 0) = false := by simpa using y0
    have HY := Lib.hid y0
    clear y0
    by_cases s0 : s < 0
    · have q7 : decide (s < 0) = true := by simpa using s0
      try clear b8_0 b8_1 b8_2 b8_3 b8_z b8_l
      obtain ⟨b8_0, b8_1, b8_2, b8_3⟩ := b8.c4
      have b8_z := b8.free
      have b8_l := b8.lt
      go_wp2_with fail
      go_ret
      exact ⟨rfl, hx⟩
    have q7 : decide (s < 0) = false := by simpa using s0
    by_cases s1 : 1 < s
    · have q8 : decide (1 < s) = true := by simpa using s1
      try clear b8_0 b8_1 b8_2 b8_3 b8_z b8_l
      obtain ⟨b8_0, b8_1, b8_2, b8_3⟩ := b8.c4
      have b8_z := b8.free
      have b8_l := b8.lt
      go_wp2_with fail
      go_ret
      exact ⟨rfl, hx⟩
    have q8 : decide (1 < s) = false := by simpa using s1
    try clear b8_0 b8_1 b8_2 b8_3 b8_z b8_l
    obtain ⟨b8_0, b8_1, b8_2, b8_3⟩ := b8.c4
    have b8_z := b8.free
    have b8_l := b8.lt
    go_upto_region 5 with (fail)
    try clear b8_0 b8_1 b8_2 b8_3 b8_z b8_l
    clear q0 q1 q2 q3 q4 q5 q6 q7 q8 qa
    have HS : Hid (s = 0 ∨ s = 1) := Lib.hid (by omega)
    have PF := Lib.hid (pIn_flush PI.out)
    have HFF := Lib.hid HF.out.flush
    have QF : Hid ((pPut (dFlush d) p r).2 = 0) := Lib.hid (by rw [pPut_ok PF.out HW.out])
    have FX := Lib.hid (HFF.out.put (by omega) p r)
    go_cut [13, 14] from 64 to 72 (fun t13 t14 wr => BoxD wr t13 (pPut (dFlush d) p r).1 ∧ t14 = .int .i64 0 ∧ Box wr g8 32 #[.int .i64 r.kind, .int .i64 r.key, .int .i64 r.ver, .slice A2 n2 c2] ∧ RecV wr w.heap.size (.agg #[.int .i64 r.kind, .int .i64 r.key, .int .i64 r.ver, .slice A2 n2 c2]) r ∧ Ext w wr)
    case first =>
      have hx := hx.drew
      have b6 := b6.drew
      have b8 := b8.drew
      have h := h.ext ((Below.refl _ _).drew)
      have hr := hr.ext ((Below.refl _ _).drew)
      refine wp_region_ue 11 [7, 10] [0, 2, 3, 5, 6, 7, 10] rfl (by kernel_rfl) (by kernel_rfl) ?_
      generalize w2.drew = D at hx b6 b8 h hr ⊢
      apply uF 0 (by kernel_rfl) (by rfl) (by rfl) (by rfl)
      · (intro w' hx; obtain ⟨x0, x1⟩ := (b6.ext hx).c2; obtain ⟨y0, y1, y2, y3⟩ := (b8.ext hx).c4; go_simp <;> with_reducible rfl)
      simp only [Act.put, List.setIfInBounds_toArray, List.set_cons_zero, List.set_cons_succ]
      apply uF 2 (by kernel_rfl) (by rfl) (by rfl) (by rfl)
      · (intro w' hx; obtain ⟨x0, x1⟩ := (b6.ext hx).c2; obtain ⟨y0, y1, y2, y3⟩ := (b8.ext hx).c4; go_simp <;> with_reducible rfl)
      simp only [Act.put, List.setIfInBounds_toArray, List.set_cons_zero, List.set_cons_succ]
      apply uF 3 (by kernel_rfl) (by rfl) (by rfl) (by rfl)
      · (intro w' hx; obtain ⟨x0, x1⟩ := (b6.ext hx).c2; obtain ⟨y0, y1, y2, y3⟩ := (b8.ext hx).c4; go_simp <;> with_reducible rfl)
      simp only [Act.put, List.setIfInBounds_toArray, List.set_cons_zero, List.set_cons_succ]
      clear b6
      refine uS2 1 8 (by kernel_rfl) (by kernel_rfl) (by rfl) (by rfl) (by rfl) (by rfl) (fun K hK => ?_) (fun K hK => ?_)
      · skip
        go_wp2_with (go_at_call 57; refine (refFlush_v (d := d) HT.out (by have := hx.size; omega) h HF.out.ok HF.out.inn).mono ?_; rintro e wn ⟨v9, rfl, d9, he⟩)
        refine hK.out _ _ (he) ?_
        clear hK K
        try simp only [Act.put, List.setIfInBounds_toArray, List.set_cons_zero, List.set_cons_succ]
        clear h
        have hx := ext_trans hx he
        have b8 := b8.ext he
        have hr := hr.ext he
        try (have b17 := b17.ext he)
        try (have d9 := d9.ext he)
        try (have d11 := d11.ext he)
        try (have b2 := b2.ext he)
        clear he
        refine uS2 4 8 (by kernel_rfl) (by kernel_rfl) (by rfl) (by rfl) (by rfl) (by rfl) (fun K hK => ?_) (fun K hK => ?_)
        · skip
          go_wp2_with (go_at_call 78; refine (pPut_v (p := p) d9 HFF.out.ok (Nat.le_trans HFF.out.late (by omega)) hr).mono ?_; rintro e wp ⟨v11, q11, rfl, hq, d11, he⟩)
          refine hK.out _ _ (he) ?_
          clear hK K
          try simp only [Act.put, List.setIfInBounds_toArray, List.set_cons_zero, List.set_cons_succ]
          obtain rfl : q11 = 0 := hq.out.trans QF.out
          clear hq
          have hx := ext_trans hx he
          have b8 := b8.ext he
          have hr := hr.ext he
          try (have b17 := b17.ext he)
          try (have d9 := d9.ext he)
          try (have d11 := d11.ext he)
          try (have b2 := b2.ext he)
          clear he
          obtain ⟨A11, n11, c11, E11, m11, e11, rfl, _, _, _, _, _, _⟩ := d11.form
          apply uF 5 (by kernel_rfl) (by rfl) (by rfl) (by rfl)
          · (intro w' hx; go_simp <;> with_reducible rfl)
          simp only [Act.put, List.setIfInBounds_toArray, List.set_cons_zero, List.set_cons_succ]
          apply uF 6 (by kernel_rfl) (by rfl) (by rfl) (by rfl)
          · (intro w' hx; go_simp <;> with_reducible rfl)
          simp only [Act.put, List.setIfInBounds_toArray, List.set_cons_zero, List.set_cons_succ]
          apply uU 7 (by kernel_rfl) (by rfl) (by rfl)
          · (intro w'; go_simp <;> with_reducible rfl)
          simp only [Act.put, List.setIfInBounds_toArray, List.set_cons_zero, List.set_cons_succ]
          refine uS 8 (by kernel_rfl) (by kernel_rfl) (by rfl) (by rfl) (fun K hK => ?_)
          go_wp2
          refine hK.out _ _ (ext_alloc _ _) ?_
          clear hK K
          try simp only [Act.put, List.setIfInBounds_toArray, List.set_cons_zero, List.set_cons_succ]
          obtain ⟨wc, hwc⟩ : ∃ wc, wc = wp := ⟨_, rfl⟩
          rw [← hwc] at hx b8 hr ⊢
          try rw [← hwc] at d9
          try rw [← hwc] at d11
          try rw [← hwc] at b17
          try rw [← hwc] at h
          clear hwc
          have l2 := hx.size
          have l12 := b8.lt
          try (have l17 := b17.lt)
          generalize hwn : World.alloc wc _ = wn
          have he : Ext wc wn := by rw [← hwn]; exact ext_alloc _ _
          have b2 : Box wn wc.heap.size 46 #[.slice none 0 0, .slice none 0 0] := by rw [← hwn]; exact Box.new _ _ _ (by simp)
          clear hwn
          have hx := ext_trans hx he
          have b8 := b8.ext he
          have hr := hr.ext he
          try (have h := h.ext he)
          try (have b17 := b17.ext he)
          try (have d9 := d9.ext he)
          try (have d11 := d11.ext he)
          clear he
          refine uL 9 (by kernel_rfl) (by kernel_rfl) (by kernel_rfl) (by rfl) (by rfl) (fun K hK => ?_)
          have hK' := Lib.hid hK
          clear hK
          have k2 := b2.kd
          obtain ⟨b2_0, b2_1⟩ := b2.c2
          have b2_z := b2.free
          have b2_l := b2.lt
          go_wp2
          refine hK'.out _ _ ?_
          clear hK' K
          apply uU 10 (by kernel_rfl) (by rfl) (by rfl)
          · (intro w'; go_simp <;> with_reducible rfl)
          simp only [Act.put, List.setIfInBounds_toArray, List.set_cons_zero, List.set_cons_succ]
          refine uEnd (by kernel_rfl) ?_
          go_wp2_with fail
          go_meet
          exact ⟨⟨_, _, _, _, _, _, _, rfl, (b2.set 0 _).set 1 _, d11.kept (by (repeat (with_reducible (first | assumption | exact Kept.refl _ _ _ | (apply Kept.setK; rotate_left; (repeat (first | assumption | apply Kd.set | apply Kd.alloc | apply Kd.drew)); decide; omega) | refine Kept.allocK ?_ _ | refine Kept.drewK ?_))))⟩, rfl, by (repeat (with_reducible (first | assumption | refine Box.alloc ?_ _ | refine Box.setOther ?_ (by simp <;> omega) _))), hr.kept (T := []) (by (repeat (with_reducible (first | assumption | exact Kept.refl _ _ _ | (apply Kept.setK; rotate_left; (repeat (first | assumption | apply Kd.set | apply Kd.alloc | apply Kd.drew)); decide; omega) | refine Kept.allocK ?_ _ | refine Kept.drewK ?_)))), by (repeat (with_reducible (first | assumption | exact Below.refl _ _ | refine Below.setCell ?_ (by simp <;> omega) _ | refine Below.alloc ?_ (by simp <;> omega) _ | refine Below.drew ?_ | refine below_drewN ?_ _)))⟩
        · skip
          go_wp2
          refine hK.out _ _ (ext_alloc _ _) ?_
          clear hK K
          try simp only [Act.put, List.setIfInBounds_toArray, List.set_cons_zero, List.set_cons_succ]
          obtain ⟨wc, hwc⟩ : ∃ wc, wc = wn := ⟨_, rfl⟩
          rw [← hwc] at hx b8 hr ⊢
          try rw [← hwc] at d9
          try rw [← hwc] at d11
          try rw [← hwc] at b17
          try rw [← hwc] at h
          clear hwc
          have l2 := hx.size
          have l12 := b8.lt
          try (have l17 := b17.lt)
          generalize hwn : World.alloc wc _ = wn
          have he : Ext wc wn := by rw [← hwn]; exact ext_alloc _ _
          have b2 : Box wn wc.heap.size 46 #[.slice none 0 0, .slice none 0 0] := by rw [← hwn]; exact Box.new _ _ _ (by simp)
          clear hwn
          have hx := ext_trans hx he
          have b8 := b8.ext he
          have hr := hr.ext he
          try (have h := h.ext he)
          try (have b17 := b17.ext he)
          try (have d9 := d9.ext he)
          try (have d11 := d11.ext he)
          clear he
          refine uS 4 (by kernel_rfl) (by kernel_rfl) (by rfl) (by rfl) (fun K hK => ?_)
          go_wp2_with (go_at_call 78; refine (pPut_v (p := p) d9 HFF.out.ok (Nat.le_trans HFF.out.late (by omega)) hr).mono ?_; rintro e wp ⟨v11, q11, rfl, hq, d11, he⟩)
          refine hK.out _ _ (he) ?_
          clear hK K
          try simp only [Act.put, List.setIfInBounds_toArray, List.set_cons_zero, List.set_cons_succ]
          obtain rfl : q11 = 0 := hq.out.trans QF.out
          clear hq
          have hx := ext_trans hx he
          have b8 := b8.ext he
          have hr := hr.ext he
          try (have b17 := b17.ext he)
          try (have d9 := d9.ext he)
          try (have d11 := d11.ext he)
          try (have b2 := b2.ext he)
          clear he
          obtain ⟨A11, n11, c11, E11, m11, e11, rfl, _, _, _, _, _, _⟩ := d11.form
          apply uF 5 (by kernel_rfl) (by rfl) (by rfl) (by rfl)
          · (intro w' hx; go_simp <;> with_reducible rfl)
          simp only [Act.put, List.setIfInBounds_toArray, List.set_cons_zero, List.set_cons_succ]
          apply uF 6 (by kernel_rfl) (by rfl) (by rfl) (by rfl)
          · (intro w' hx; go_simp <;> with_reducible rfl)
          simp only [Act.put, List.setIfInBounds_toArray, List.set_cons_zero, List.set_cons_succ]
          apply uU 7 (by kernel_rfl) (by rfl) (by rfl)
          · (intro w'; go_simp <;> with_reducible rfl)
          simp only [Act.put, List.setIfInBounds_toArray, List.set_cons_zero, List.set_cons_succ]
          refine uL 9 (by kernel_rfl) (by kernel_rfl) (by kernel_rfl) (by rfl) (by rfl) (fun K hK => ?_)
          have hK' := Lib.hid hK
          clear hK
          have k2 := b2.kd
          obtain ⟨b2_0, b2_1⟩ := b2.c2
          have b2_z := b2.free
          have b2_l := b2.lt
          go_wp2
          refine hK'.out _ _ ?_
          clear hK' K
          apply uU 10 (by kernel_rfl) (by rfl) (by rfl)
          · (intro w'; go_simp <;> with_reducible rfl)
          simp only [Act.put, List.setIfInBounds_toArray, List.set_cons_zero, List.set_cons_succ]
          refine uEnd (by kernel_rfl) ?_
          go_wp2_with fail
          go_meet
          exact ⟨⟨_, _, _, _, _, _, _, rfl, (b2.set 0 _).set 1 _, d11.kept (by (repeat (with_reducible (first | assumption | exact Kept.refl _ _ _ | (apply Kept.setK; rotate_left; (repeat (first | assumption | apply Kd.set | apply Kd.alloc | apply Kd.drew)); decide; omega) | refine Kept.allocK ?_ _ | refine Kept.drewK ?_))))⟩, rfl, by (repeat (with_reducible (first | assumption | refine Box.alloc ?_ _ | refine Box.setOther ?_ (by simp <;> omega) _))), hr.kept (T := []) (by (repeat (with_reducible (first | assumption | exact Kept.refl _ _ _ | (apply Kept.setK; rotate_left; (repeat (first | assumption | apply Kd.set | apply Kd.alloc | apply Kd.drew)); decide; omega) | refine Kept.allocK ?_ _ | refine Kept.drewK ?_)))), by (repeat (with_reducible (first | assumption | exact Below.refl _ _ | refine Below.setCell ?_ (by simp <;> omega) _ | refine Below.alloc ?_ (by simp <;> omega) _ | refine Below.drew ?_ | refine below_drewN ?_ _)))⟩
      · skip
        go_wp2
        refine hK.out _ _ (ext_alloc _ _) ?_
        clear hK K
        try simp only [Act.put, List.setIfInBounds_toArray, List.set_cons_zero, List.set_cons_succ]
        obtain ⟨wc, hwc⟩ : ∃ wc, wc = D := ⟨_, rfl⟩
        rw [← hwc] at hx b8 hr ⊢
        try rw [← hwc] at d9
        try rw [← hwc] at d11
        try rw [← hwc] at b17
        try rw [← hwc] at h
        clear hwc
        have l2 := hx.size
        have l12 := b8.lt
        try (have l17 := b17.lt)
        generalize hwn : World.alloc wc _ = wn
        have he : Ext wc wn := by rw [← hwn]; exact ext_alloc _ _
        have b2 : Box wn wc.heap.size 46 #[.slice none 0 0, .slice none 0 0] := by rw [← hwn]; exact Box.new _ _ _ (by simp)
        clear hwn
        have hx := ext_trans hx he
        have b8 := b8.ext he
        have hr := hr.ext he
        try (have h := h.ext he)
        try (have b17 := b17.ext he)
        try (have d9 := d9.ext he)
        try (have d11 := d11.ext he)
        clear he
        refine uS 1 (by kernel_rfl) (by kernel_rfl) (by rfl) (by rfl) (fun K hK => ?_)
        go_wp2_with (go_at_call 57; refine (refFlush_v (d := d) HT.out (by have := hx.size; omega) h HF.out.ok HF.out.inn).mono ?_; rintro e wn ⟨v9, rfl, d9, he⟩)
        refine hK.out _ _ (he) ?_
        clear hK K
        try simp only [Act.put, List.setIfInBounds_toArray, List.set_cons_zero, List.set_cons_succ]
        clear h
        have hx := ext_trans hx he
        have b8 := b8.ext he
        have hr := hr.ext he
        try (have b17 := b17.ext he)
        try (have d9 := d9.ext he)
        try (have d11 := d11.ext he)
        try (have b2 := b2.ext he)
        clear he
        refine uS 4 (by kernel_rfl) (by kernel_rfl) (by rfl) (by rfl) (fun K hK => ?_)
        go_wp2_with (go_at_call 78; refine (pPut_v (p := p) d9 HFF.out.ok (Nat.le_trans HFF.out.late (by omega)) hr).mono ?_; rintro e wp ⟨v11, q11, rfl, hq, d11, he⟩)
        refine hK.out _ _ (he) ?_
        clear hK K
        try simp only [Act.put, List.setIfInBounds_toArray, List.set_cons_zero, List.set_cons_succ]
        obtain rfl : q11 = 0 := hq.out.trans QF.out
        clear hq
        have hx := ext_trans hx he
        have b8 := b8.ext he
        have hr := hr.ext he
        try (have b17 := b17.ext he)
        try (have d9 := d9.ext he)
        try (have d11 := d11.ext he)
        try (have b2 := b2.ext he)
        clear he
        obtain ⟨A11, n11, c11, E11, m11, e11, rfl, _, _, _, _, _, _⟩ := d11.form
        apply uF 5 (by kernel_rfl) (by rfl) (by rfl) (by rfl)
        · (intro w' hx; go_simp <;> with_reducible rfl)
        simp only [Act.put, List.setIfInBounds_toArray, List.set_cons_zero, List.set_cons_succ]
        apply uF 6 (by kernel_rfl) (by rfl) (by rfl) (by rfl)
        · (intro w' hx; go_simp <;> with_reducible rfl)
        simp only [Act.put, List.setIfInBounds_toArray, List.set_cons_zero, List.set_cons_succ]
        apply uU 7 (by kernel_rfl) (by rfl) (by rfl)
        · (intro w'; go_simp <;> with_reducible rfl)
        simp only [Act.put, List.setIfInBounds_toArray, List.set_cons_zero, List.set_cons_succ]
        refine uL 9 (by kernel_rfl) (by kernel_rfl) (by kernel_rfl) (by rfl) (by rfl) (fun K hK => ?_)
        have hK' := Lib.hid hK
        clear hK
        have k2 := b2.kd
        obtain ⟨b2_0, b2_1⟩ := b2.c2
        have b2_z := b2.free
        have b2_l := b2.lt
        go_wp2
        refine hK'.out _ _ ?_
        clear hK' K
        apply uU 10 (by kernel_rfl) (by rfl) (by rfl)
        · (intro w'; go_simp <;> with_reducible rfl)
        simp only [Act.put, List.setIfInBounds_toArray, List.set_cons_zero, List.set_cons_succ]
        refine uEnd (by kernel_rfl) ?_
        go_wp2_with fail
        go_meet
        exact ⟨⟨_, _, _, _, _, _, _, rfl, (b2.set 0 _).set 1 _, d11.kept (by (repeat (with_reducible (first | assumption | exact Kept.refl _ _ _ | (apply Kept.setK; rotate_left; (repeat (first | assumption | apply Kd.set | apply Kd.alloc | apply Kd.drew)); decide; omega) | refine Kept.allocK ?_ _ | refine Kept.drewK ?_))))⟩, rfl, by (repeat (with_reducible (first | assumption | refine Box.alloc ?_ _ | refine Box.setOther ?_ (by simp <;> omega) _))), hr.kept (T := []) (by (repeat (with_reducible (first | assumption | exact Kept.refl _ _ _ | (apply Kept.setK; rotate_left; (repeat (first | assumption | apply Kd.set | apply Kd.alloc | apply Kd.drew)); decide; omega) | refine Kept.allocK ?_ _ | refine Kept.drewK ?_)))), by (repeat (with_reducible (first | assumption | exact Below.refl _ _ | refine Below.setCell ?_ (by simp <;> omega) _ | refine Below.alloc ?_ (by simp <;> omega) _ | refine Below.drew ?_ | refine below_drewN ?_ _)))⟩
    case rest =>
      clear hx h hr b6 b8
      obtain ⟨⟨g2, A3, n3, c3, E3, m3, e3, rfl, b2, d2⟩, rfl, b8, hr, hx⟩ := hcut
      have SP := Lib.hid (pSpoil_one (side := s) (n := n) (y := y) PF.out (by omega) HW.out HK.out HS.out ⟨by omega, by omega⟩ HY.out HFF.out.inn)
      have KO := Lib.hid (keep_one (side := s) (by omega) (by omega) HW.out HK.out HS.out : pLook (dKeep (pPut dFree p r).1 (1 + s)) p = (2, r))
      have FF := Lib.hid free_fine
      have QN : Hid ((pPut dFree p r).2 = 0) := Lib.hid (by rw [pPut_ok (free_in (by omega) (by omega)) HW.out])
      have FY := Lib.hid (FF.out.put (by omega) p r)
      generalize (pPut (dFlush d) p r).1 = dx at d2 SP FX
      obtain ⟨b2_0, b2_1⟩ := b2.c2
      have b2_z := b2.free
      have b2_l := b2.lt
      go_wp2_with fail
      refine (refFlush_v HT.out (Nat.zero_le _) d2 FX.out.ok FX.out.inn).mono ?_
      rintro e4 w4 ⟨v4, rfl, d4, he⟩
      try clear b2_0 b2_1 b2_z b2_l b2_0 b2_1 b2_z b2_l b2_0 b2_1 b2_z b2_l b2_0 b2_1 b2_z b2_l
      have hx := ext_trans hx he
      have hr := hr.ext he
      have b2 := b2.ext he
      have b8 := b8.ext he
      clear he
      clear d2 b2
      obtain ⟨A4, n4, c4, E4, m4, e4, rfl, _, _, _, _, _, _⟩ := d4.form
      go_wp2_with fail
      refine (refSpoil_v (k := 2 * p + s) (n := n) (y := y) HT.out (Nat.zero_le _) d4 FX.out.flush.ok).mono ?_
      rintro e5 w5 ⟨v5, rfl, d5, he⟩
      have hx := ext_trans hx he
      have hr := hr.ext he
      have b8 := b8.ext he
      clear he
      clear d4
      obtain ⟨A5, n5, c5, E5, m5, e5, rfl, _, _, _, _, _, _⟩ := d5.form
      go_upto_region 9 with (fail)
      generalize hwn : World.alloc w5 _ = w6
      have he : Ext w5 w6 := by rw [← hwn]; exact ext_alloc _ _
      have b15 : Box w6 w5.heap.size 46 #[.slice A5 n5 c5, .slice E5 m5 e5] := by rw [← hwn]; exact Box.new _ _ _ (by simp)
      clear hwn
      have hx := ext_trans hx he
      have hr := hr.ext he
      have b8 := b8.ext he
      have d5 := d5.ext he
      clear he
      obtain ⟨b15_0, b15_1⟩ := b15.c2
      have b15_z := b15.free
      have b15_l := b15.lt
      go_wp2_with fail
      refine (look_v (p := p) d5 (FX.out.flush.spoil _ _ _).ok).mono ?_
      rintro e7 w7 ⟨v7, rfl, hr7, he⟩
      try clear b15_0 b15_1 b15_z b15_l
      have hx := ext_trans hx he
      have hr := hr.ext he
      have b8 := b8.ext he
      have b15 := b15.ext he
      clear he
      rw [SP.out] at hr7
      rw [SP.out]
      simp only at hr7
      clear d5 b15
      obtain ⟨A7, n7, c7, rfl, _, hy7⟩ := hr7.at_
      go_upto_region 10 with (fail)
      generalize hwn : World.alloc w7 _ = w8
      have he : Ext w7 w8 := by rw [← hwn]; exact ext_alloc _ _
      have b17 : Box w8 w7.heap.size 32 #[.int .i64 r.kind, .int .i64 r.key, .int .i64 r.ver, .slice A7 n7 c7] := by rw [← hwn]; exact Box.new _ _ _ (by simp)
      have l17 := hx.size
      have l817 := b8.lt
      clear hwn hy7
      have hx := ext_trans hx he
      have hr := hr.ext he
      have b8 := b8.ext he
      have hr7 := hr7.ext he
      clear he
      obtain ⟨b8_0, b8_1, b8_2, b8_3⟩ := b8.c4
      have b8_z := b8.free
      have b8_l := b8.lt
      obtain ⟨b17_0, b17_1, b17_2, b17_3⟩ := b17.c4
      have b17_z := b17.free
      have b17_l := b17.lt
      go_wp2_with fail
      refine (refSame_v (r := r) (s := r) hr7 hr).mono ?_
      rintro e9 w9 ⟨rfl, he⟩
      try clear b8_0 b8_1 b8_2 b8_3 b8_z b8_l b17_0 b17_1 b17_2 b17_3 b17_z b17_l
      have hx := ext_trans hx he
      have hr := hr.ext he
      have b8 := b8.ext he
      have b17 := b17.ext he
      clear he
      rw [rSame_id]
      clear hr7
      go_upto_region 12 with (fail)
      obtain ⟨g17, hg17⟩ : ∃ g, g = w7.heap.size := ⟨_, rfl⟩
      rw [← hg17] at b17 l17 l817 ⊢
      clear hg17
      go_cut [18, 19] from 97 to 104 (fun t18 t19 wr => BoxD wr t18 (pPut dFree p r).1 ∧ t19 = .int .i64 0 ∧ Box wr g8 32 #[.int .i64 r.kind, .int .i64 r.key, .int .i64 r.ver, .slice A2 n2 c2] ∧ Box wr g17 32 #[.int .i64 r.kind, .int .i64 r.key, .int .i64 r.ver, .slice A7 n7 c7] ∧ RecV wr w.heap.size (.agg #[.int .i64 r.kind, .int .i64 r.key, .int .i64 r.ver, .slice A2 n2 c2]) r ∧ Ext w wr)
      case first =>
        have hx := hx.drew
        have b8 := b8.drew
        have b17 := b17.drew
        have hr := hr.ext ((Below.refl _ _).drew)
        refine wp_region_ue 10 [6, 9] [1, 2, 4, 5, 6, 9] rfl (by kernel_rfl) (by kernel_rfl) ?_
        generalize w9.drew = D at hx b8 b17 hr ⊢
        apply uF 1 (by kernel_rfl) (by rfl) (by rfl) (by rfl)
        · (intro w' hx; obtain ⟨y0, y1, y2, y3⟩ := (b8.ext hx).c4; go_simp <;> with_reducible rfl)
        simp only [Act.put, List.setIfInBounds_toArray, List.set_cons_zero, List.set_cons_succ]
        apply uF 2 (by kernel_rfl) (by rfl) (by rfl) (by rfl)
        · (intro w' hx; obtain ⟨y0, y1, y2, y3⟩ := (b8.ext hx).c4; go_simp <;> with_reducible rfl)
        simp only [Act.put, List.setIfInBounds_toArray, List.set_cons_zero, List.set_cons_succ]
        refine uS2 0 7 (by kernel_rfl) (by kernel_rfl) (by rfl) (by rfl) (by rfl) (by rfl) (fun K hK => ?_) (fun K hK => ?_)
        · skip
          go_wp2_with (go_at_call 47; refine (refNew_v _).mono ?_; rintro e wn ⟨v9, rfl, o9, he⟩)
          refine hK.out _ _ (he) ?_
          clear hK K
          try simp only [Act.put, List.setIfInBounds_toArray, List.set_cons_zero, List.set_cons_succ]
          have d9 := o9.v
          clear o9
          have hx := ext_trans hx he
          have b8 := b8.ext he
          have hr := hr.ext he
          try (have b17 := b17.ext he)
          try (have d9 := d9.ext he)
          try (have d11 := d11.ext he)
          try (have b2 := b2.ext he)
          clear he
          refine uS2 3 7 (by kernel_rfl) (by kernel_rfl) (by rfl) (by rfl) (by rfl) (by rfl) (fun K hK => ?_) (fun K hK => ?_)
          · skip
            go_wp2_with (go_at_call 78; refine (pPut_v (p := p) d9 FF.out.ok (Nat.le_trans FF.out.late (by omega)) hr).mono ?_; rintro e wp ⟨v11, q11, rfl, hq, d11, he⟩)
            refine hK.out _ _ (he) ?_
            clear hK K
            try simp only [Act.put, List.setIfInBounds_toArray, List.set_cons_zero, List.set_cons_succ]
            obtain rfl : q11 = 0 := hq.out.trans QN.out
            clear hq
            have hx := ext_trans hx he
            have b8 := b8.ext he
            have hr := hr.ext he
            try (have b17 := b17.ext he)
            try (have d9 := d9.ext he)
            try (have d11 := d11.ext he)
            try (have b2 := b2.ext he)
            clear he
            obtain ⟨A11, n11, c11, E11, m11, e11, rfl, _, _, _, _, _, _⟩ := d11.form
            apply uF 4 (by kernel_rfl) (by rfl) (by rfl) (by rfl)
            · (intro w' hx; go_simp <;> with_reducible rfl)
            simp only [Act.put, List.setIfInBounds_toArray, List.set_cons_zero, List.set_cons_succ]
            apply uF 5 (by kernel_rfl) (by rfl) (by rfl) (by rfl)
            · (intro w' hx; go_simp <;> with_reducible rfl)
            simp only [Act.put, List.setIfInBounds_toArray, List.set_cons_zero, List.set_cons_succ]
            apply uU 6 (by kernel_rfl) (by rfl) (by rfl)
            · (intro w'; go_simp <;> with_reducible rfl)
            simp only [Act.put, List.setIfInBounds_toArray, List.set_cons_zero, List.set_cons_succ]
            refine uS 7 (by kernel_rfl) (by kernel_rfl) (by rfl) (by rfl) (fun K hK => ?_)
            go_wp2
            refine hK.out _ _ (ext_alloc _ _) ?_
            clear hK K
            try simp only [Act.put, List.setIfInBounds_toArray, List.set_cons_zero, List.set_cons_succ]
            obtain ⟨wc, hwc⟩ : ∃ wc, wc = wp := ⟨_, rfl⟩
            rw [← hwc] at hx b8 hr ⊢
            try rw [← hwc] at d9
            try rw [← hwc] at d11
            try rw [← hwc] at b17
            try rw [← hwc] at h
            clear hwc
            have l2 := hx.size
            have l12 := b8.lt
            try (have l17 := b17.lt)
            generalize hwn : World.alloc wc _ = wn
            have he : Ext wc wn := by rw [← hwn]; exact ext_alloc _ _
            have b2 : Box wn wc.heap.size 46 #[.slice none 0 0, .slice none 0 0] := by rw [← hwn]; exact Box.new _ _ _ (by simp)
            clear hwn
            have hx := ext_trans hx he
            have b8 := b8.ext he
            have hr := hr.ext he
            try (have h := h.ext he)
            try (have b17 := b17.ext he)
            try (have d9 := d9.ext he)
            try (have d11 := d11.ext he)
            clear he
            refine uL 8 (by kernel_rfl) (by kernel_rfl) (by kernel_rfl) (by rfl) (by rfl) (fun K hK => ?_)
            have hK' := Lib.hid hK
            clear hK
            have k2 := b2.kd
            obtain ⟨b2_0, b2_1⟩ := b2.c2
            have b2_z := b2.free
            have b2_l := b2.lt
            go_wp2
            refine hK'.out _ _ ?_
            clear hK' K
            apply uU 9 (by kernel_rfl) (by rfl) (by rfl)
            · (intro w'; go_simp <;> with_reducible rfl)
            simp only [Act.put, List.setIfInBounds_toArray, List.set_cons_zero, List.set_cons_succ]
            refine uEnd (by kernel_rfl) ?_
            go_wp2_with fail
            go_meet
            exact ⟨⟨_, _, _, _, _, _, _, rfl, (b2.set 0 _).set 1 _, d11.kept (by (repeat (with_reducible (first | assumption | exact Kept.refl _ _ _ | (apply Kept.setK; rotate_left; (repeat (first | assumption | apply Kd.set | apply Kd.alloc | apply Kd.drew)); decide; omega) | refine Kept.allocK ?_ _ | refine Kept.drewK ?_))))⟩, rfl, by (repeat (with_reducible (first | assumption | refine Box.alloc ?_ _ | refine Box.setOther ?_ (by simp <;> omega) _))), by (repeat (with_reducible (first | assumption | refine Box.alloc ?_ _ | refine Box.setOther ?_ (by simp <;> omega) _))), hr.kept (T := []) (by (repeat (with_reducible (first | assumption | exact Kept.refl _ _ _ | (apply Kept.setK; rotate_left; (repeat (first | assumption | apply Kd.set | apply Kd.alloc | apply Kd.drew)); decide; omega) | refine Kept.allocK ?_ _ | refine Kept.drewK ?_)))), by (repeat (with_reducible (first | assumption | exact Below.refl _ _ | refine Below.setCell ?_ (by simp <;> omega) _ | refine Below.alloc ?_ (by simp <;> omega) _ | refine Below.drew ?_ | refine below_drewN ?_ _)))⟩
          · skip
            go_wp2
            refine hK.out _ _ (ext_alloc _ _) ?_
            clear hK K
            try simp only [Act.put, List.setIfInBounds_toArray, List.set_cons_zero, List.set_cons_succ]
            obtain ⟨wc, hwc⟩ : ∃ wc, wc = wn := ⟨_, rfl⟩
            rw [← hwc] at hx b8 hr ⊢
            try rw [← hwc] at d9
            try rw [← hwc] at d11
            try rw [← hwc] at b17
            try rw [← hwc] at h
            clear hwc
            have l2 := hx.size
            have l12 := b8.lt
            try (have l17 := b17.lt)
            generalize hwn : World.alloc wc _ = wn
            have he : Ext wc wn := by rw [← hwn]; exact ext_alloc _ _
            have b2 : Box wn wc.heap.size 46 #[.slice none 0 0, .slice none 0 0] := by rw [← hwn]; exact Box.new _ _ _ (by simp)
            clear hwn
            have hx := ext_trans hx he
            have b8 := b8.ext he
            have hr := hr.ext he
            try (have h := h.ext he)
            try (have b17 := b17.ext he)
            try (have d9 := d9.ext he)
            try (have d11 := d11.ext he)
            clear he
            refine uS 3 (by kernel_rfl) (by kernel_rfl) (by rfl) (by rfl) (fun K hK => ?_)
            go_wp2_with (go_at_call 78; refine (pPut_v (p := p) d9 FF.out.ok (Nat.le_trans FF.out.late (by omega)) hr).mono ?_; rintro e wp ⟨v11, q11, rfl, hq, d11, he⟩)
            refine hK.out _ _ (he) ?_
            clear hK K
            try simp only [Act.put, List.setIfInBounds_toArray, List.set_cons_zero, List.set_cons_succ]
            obtain rfl : q11 = 0 := hq.out.trans QN.out
            clear hq
            have hx := ext_trans hx he
            have b8 := b8.ext he
            have hr := hr.ext he
            try (have b17 := b17.ext he)
            try (have d9 := d9.ext he)
            try (have d11 := d11.ext he)
            try (have b2 := b2.ext he)
            clear he
            obtain ⟨A11, n11, c11, E11, m11, e11, rfl, _, _, _, _, _, _⟩ := d11.form
            apply uF 4 (by kernel_rfl) (by rfl) (by rfl) (by rfl)
            · (intro w' hx; go_simp <;> with_reducible rfl)
            simp only [Act.put, List.setIfInBounds_toArray, List.set_cons_zero, List.set_cons_succ]
            apply uF 5 (by kernel_rfl) (by rfl) (by rfl) (by rfl)
            · (intro w' hx; go_simp <;> with_reducible rfl)
            simp only [Act.put, List.setIfInBounds_toArray, List.set_cons_zero, List.set_cons_succ]
            apply uU 6 (by kernel_rfl) (by rfl) (by rfl)
            · (intro w'; go_simp <;> with_reducible rfl)
            simp only [Act.put, List.setIfInBounds_toArray, List.set_cons_zero, List.set_cons_succ]
            refine uL 8 (by kernel_rfl) (by kernel_rfl) (by kernel_rfl) (by rfl) (by rfl) (fun K hK => ?_)
            have hK' := Lib.hid hK
            clear hK
            have k2 := b2.kd
            obtain ⟨b2_0, b2_1⟩ := b2.c2
            have b2_z := b2.free
            have b2_l := b2.lt
            go_wp2
            refine hK'.out _ _ ?_
            clear hK' K
            apply uU 9 (by kernel_rfl) (by rfl) (by rfl)
            · (intro w'; go_simp <;> with_reducible rfl)
            simp only [Act.put, List.setIfInBounds_toArray, List.set_cons_zero, List.set_cons_succ]
            refine uEnd (by kernel_rfl) ?_
            go_wp2_with fail
            go_meet
            exact ⟨⟨_, _, _, _, _, _, _, rfl, (b2.set 0 _).set 1 _, d11.kept (by (repeat (with_reducible (first | assumption | exact Kept.refl _ _ _ | (apply Kept.setK; rotate_left; (repeat (first | assumption | apply Kd.set | apply Kd.alloc | apply Kd.drew)); decide; omega) | refine Kept.allocK ?_ _ | refine Kept.drewK ?_))))⟩, rfl, by (repeat (with_reducible (first | assumption | refine Box.alloc ?_ _ | refine Box.setOther ?_ (by simp <;> omega) _))), by (repeat (with_reducible (first | assumption | refine Box.alloc ?_ _ | refine Box.setOther ?_ (by simp <;> omega) _))), hr.kept (T := []) (by (repeat (with_reducible (first | assumption | exact Kept.refl _ _ _ | (apply Kept.setK; rotate_left; (repeat (first | assumption | apply Kd.set | apply Kd.alloc | apply Kd.drew)); decide; omega) | refine Kept.allocK ?_ _ | refine Kept.drewK ?_)))), by (repeat (with_reducible (first | assumption | exact Below.refl _ _ | refine Below.setCell ?_ (by simp <;> omega) _ | refine Below.alloc ?_ (by simp <;> omega) _ | refine Below.drew ?_ | refine below_drewN ?_ _)))⟩
        · skip
          go_wp2
          refine hK.out _ _ (ext_alloc _ _) ?_
          clear hK K
          try simp only [Act.put, List.setIfInBounds_toArray, List.set_cons_zero, List.set_cons_succ]
          obtain ⟨wc, hwc⟩ : ∃ wc, wc = D := ⟨_, rfl⟩
          rw [← hwc] at hx b8 hr ⊢
          try rw [← hwc] at d9
          try rw [← hwc] at d11
          try rw [← hwc] at b17
          try rw [← hwc] at h
          clear hwc
          have l2 := hx.size
          have l12 := b8.lt
          try (have l17 := b17.lt)
          generalize hwn : World.alloc wc _ = wn
          have he : Ext wc wn := by rw [← hwn]; exact ext_alloc _ _
          have b2 : Box wn wc.heap.size 46 #[.slice none 0 0, .slice none 0 0] := by rw [← hwn]; exact Box.new _ _ _ (by simp)
          clear hwn
          have hx := ext_trans hx he
          have b8 := b8.ext he
          have hr := hr.ext he
          try (have h := h.ext he)
          try (have b17 := b17.ext he)
          try (have d9 := d9.ext he)
          try (have d11 := d11.ext he)
          clear he
          refine uS 0 (by kernel_rfl) (by kernel_rfl) (by rfl) (by rfl) (fun K hK => ?_)
          go_wp2_with (go_at_call 47; refine (refNew_v _).mono ?_; rintro e wn ⟨v9, rfl, o9, he⟩)
          refine hK.out _ _ (he) ?_
          clear hK K
          try simp only [Act.put, List.setIfInBounds_toArray, List.set_cons_zero, List.set_cons_succ]
          have d9 := o9.v
          clear o9
          have hx := ext_trans hx he
          have b8 := b8.ext he
          have hr := hr.ext he
          try (have b17 := b17.ext he)
          try (have d9 := d9.ext he)
          try (have d11 := d11.ext he)
          try (have b2 := b2.ext he)
          clear he
          refine uS 3 (by kernel_rfl) (by kernel_rfl) (by rfl) (by rfl) (fun K hK => ?_)
          go_wp2_with (go_at_call 78; refine (pPut_v (p := p) d9 FF.out.ok (Nat.le_trans FF.out.late (by omega)) hr).mono ?_; rintro e wp ⟨v11, q11, rfl, hq, d11, he⟩)
          refine hK.out _ _ (he) ?_
          clear hK K
          try simp only [Act.put, List.setIfInBounds_toArray, List.set_cons_zero, List.set_cons_succ]
          obtain rfl : q11 = 0 := hq.out.trans QN.out
          clear hq
          have hx := ext_trans hx he
          have b8 := b8.ext he
          have hr := hr.ext he
          try (have b17 := b17.ext he)
          try (have d9 := d9.ext he)
          try (have d11 := d11.ext he)
          try (have b2 := b2.ext he)
          clear he
          obtain ⟨A11, n11, c11, E11, m11, e11, rfl, _, _, _, _, _, _⟩ := d11.form
          apply uF 4 (by kernel_rfl) (by rfl) (by rfl) (by rfl)
          · (intro w' hx; go_simp <;> with_reducible rfl)
          simp only [Act.put, List.setIfInBounds_toArray, List.set_cons_zero, List.set_cons_succ]
          apply uF 5 (by kernel_rfl) (by rfl) (by rfl) (by rfl)
          · (intro w' hx; go_simp <;> with_reducible rfl)
          simp only [Act.put, List.setIfInBounds_toArray, List.set_cons_zero, List.set_cons_succ]
          apply uU 6 (by kernel_rfl) (by rfl) (by rfl)
          · (intro w'; go_simp <;> with_reducible rfl)
          simp only [Act.put, List.setIfInBounds_toArray, List.set_cons_zero, List.set_cons_succ]
          refine uL 8 (by kernel_rfl) (by kernel_rfl) (by kernel_rfl) (by rfl) (by rfl) (fun K hK => ?_)
          have hK' := Lib.hid hK
          clear hK
          have k2 := b2.kd
          obtain ⟨b2_0, b2_1⟩ := b2.c2
          have b2_z := b2.free
          have b2_l := b2.lt
          go_wp2
          refine hK'.out _ _ ?_
          clear hK' K
          apply uU 9 (by kernel_rfl) (by rfl) (by rfl)
          · (intro w'; go_simp <;> with_reducible rfl)
          simp only [Act.put, List.setIfInBounds_toArray, List.set_cons_zero, List.set_cons_succ]
          refine uEnd (by kernel_rfl) ?_
          go_wp2_with fail
          go_meet
          exact ⟨⟨_, _, _, _, _, _, _, rfl, (b2.set 0 _).set 1 _, d11.kept (by (repeat (with_reducible (first | assumption | exact Kept.refl _ _ _ | (apply Kept.setK; rotate_left; (repeat (first | assumption | apply Kd.set | apply Kd.alloc | apply Kd.drew)); decide; omega) | refine Kept.allocK ?_ _ | refine Kept.drewK ?_))))⟩, rfl, by (repeat (with_reducible (first | assumption | refine Box.alloc ?_ _ | refine Box.setOther ?_ (by simp <;> omega) _))), by (repeat (with_reducible (first | assumption | refine Box.alloc ?_ _ | refine Box.setOther ?_ (by simp <;> omega) _))), hr.kept (T := []) (by (repeat (with_reducible (first | assumption | exact Kept.refl _ _ _ | (apply Kept.setK; rotate_left; (repeat (first | assumption | apply Kd.set | apply Kd.alloc | apply Kd.drew)); decide; omega) | refine Kept.allocK ?_ _ | refine Kept.drewK ?_)))), by (repeat (with_reducible (first | assumption | exact Below.refl _ _ | refine Below.setCell ?_ (by simp <;> omega) _ | refine Below.alloc ?_ (by simp <;> omega) _ | refine Below.drew ?_ | refine below_drewN ?_ _)))⟩
      case rest =>
        clear hx hr b8 b17
        obtain ⟨⟨g18, A10, n10, c10, E10, m10, e10, rfl, b18, d10⟩, rfl, b8, b17, hr, hx⟩ := hcut
        obtain ⟨b18_0, b18_1⟩ := b18.c2
        have b18_z := b18.free
        have b18_l := b18.lt
        go_wp2_with fail
        refine (refKeep_v (k := 1 + s) HT.out (Nat.zero_le _) d10 FY.out.ok FY.out.inn).mono ?_
        rintro e11 w11 ⟨v11, rfl, d11, he⟩
        try clear b2_0 b2_1 b2_z b2_l b2_0 b2_1 b2_z b2_l b2_0 b2_1 b2_z b2_l b18_0 b18_1 b18_z b18_l
        have hx := ext_trans hx he
        have hr := hr.ext he
        have b18 := b18.ext he
        have b8 := b8.ext he
        have b17 := b17.ext he
        clear he
        clear d10 b18
        obtain ⟨A11, n11, c11, E11, m11, e11, rfl, _, _, _, _, _, _⟩ := d11.form
        go_wp2_with fail
        refine (look_v (p := p) d11 (FY.out.keep _).ok).mono ?_
        rintro e12 w12 ⟨v12, rfl, hr12, he⟩
        have hx := ext_trans hx he
        have hr := hr.ext he
        have b8 := b8.ext he
        have b17 := b17.ext he
        clear he
        rw [KO.out] at hr12
        rw [KO.out]
        simp only at hr12
        clear d11
        obtain ⟨A12, n12, c12, rfl, _, hy12⟩ := hr12.at_
        have k17 := b17.kd
        obtain ⟨b17_0, b17_1, b17_2, b17_3⟩ := b17.c4
        have b17_z := b17.free
        have b17_l := b17.lt
        go_upto_region 14 with (fail)
        try clear b17_0 b17_1 b17_2 b17_3 b17_z b17_l
        generalize hwn : World.setCell (World.setCell (World.setCell (World.setCell w12 _ _) _ _) _ _) _ _ = w13
        have hx : Ext w w13 := by rw [← hwn]; (repeat (with_reducible (first | assumption | exact Below.refl _ _ | refine Below.setCell ?_ (by simp <;> omega) _ | refine Below.alloc ?_ (by simp <;> omega) _ | refine Below.drew ?_ | refine below_drewN ?_ _)))
        have b8 : Box w13 g8 32 #[.int .i64 r.kind, .int .i64 r.key, .int .i64 r.ver, .slice A2 n2 c2] := by rw [← hwn]; (repeat (with_reducible (first | assumption | refine Box.alloc ?_ _ | refine Box.setOther ?_ (by simp <;> omega) _)))
        have b17 : Box w13 g17 32 #[.int .i64 r.kind, .int .i64 r.key, .int .i64 r.ver, .slice A12 n12 c12] := by rw [← hwn]; exact (((b17.set 0 _).set 1 _).set 2 _).set 3 _
        have hr := hr.kept (T := []) (w' := w13) (by rw [← hwn]; (repeat (with_reducible (first | assumption | exact Kept.refl _ _ _ | (apply Kept.setK; rotate_left; (repeat (first | assumption | apply Kd.set | apply Kd.alloc | apply Kd.drew)); decide; omega) | refine Kept.allocK ?_ _ | refine Kept.drewK ?_))))
        have hr12 := hr12.kept (T := []) (w' := w13) (by rw [← hwn]; (repeat (with_reducible (first | assumption | exact Kept.refl _ _ _ | (apply Kept.setK; rotate_left; (repeat (first | assumption | apply Kd.set | apply Kd.alloc | apply Kd.drew)); decide; omega) | refine Kept.allocK ?_ _ | refine Kept.drewK ?_))))
        clear hwn k17 hy12
        obtain ⟨b8_0, b8_1, b8_2, b8_3⟩ := b8.c4
        have b8_z := b8.free
        have b8_l := b8.lt
        obtain ⟨b17_0, b17_1, b17_2, b17_3⟩ := b17.c4
        have b17_z := b17.free
        have b17_l := b17.lt
        go_wp2_with fail
        refine (refSame_v (r := r) (s := r) hr12 hr).mono ?_
        rintro e14 w14 ⟨rfl, he⟩
        try clear b8_0 b8_1 b8_2 b8_3 b8_z b8_l b17_0 b17_1 b17_2 b17_3 b17_z b17_l
        have hx := ext_trans hx he
        have b8 := b8.ext he
        have b17 := b17.ext he
        clear he
        rw [rSame_id]
        go_wp2_with fail
        go_ret
        exact ⟨rfl, hx⟩
end Go.Proofs.Ytnganglmpcbcbaa

