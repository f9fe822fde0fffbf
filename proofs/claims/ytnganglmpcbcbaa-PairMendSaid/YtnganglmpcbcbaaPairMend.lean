/- The statement PairMend: the walk of the law. -/
import Derived.Test.YtnganglmpcbcbaaAlive4
namespace Go.Proofs.Ytnganglmpcbcbaa
open Go Go.RowKit

set_option maxRecDepth 100000 in
set_option maxHeartbeats 4000000 in
theorem pairMend_law (w : World) {v : Value} {d : Dsk} {p : Int} (h : DskV tD w w.heap.size v d) :
    Calls Try.prog 15 #[v, .int .i64 p] w fun e w' => e = .returned (.bool true) ∧ Ext w w' := by
  obtain ⟨A, n, c, E, m, e, rfl, HN, HM, hb, hl, hnc, hme⟩ := h.form
  clear hb hl HN HM
  go_enter Try.func15, Try.ntmps15
  go_upto_region 1 with (fail)
  generalize hwn : World.alloc w _ = W
  have hx : Ext w W := by rw [← hwn]; exact ext_alloc _ _
  have b2 : Box W w.heap.size 46 #[.slice A n c, .slice E m e] := by rw [← hwn]; exact Box.new _ _ _ rfl
  clear hwn
  have h := h.ext hx
  go_wp2_with fail
  refine (alive4_w _).mono ?_
  rintro e0 w0 ⟨rfl, he⟩
  have hx := ext_trans hx he
  have h := h.ext he
  have b2 := b2.ext he
  clear he
  obtain ⟨b2_0, b2_1⟩ := b2.c2
  have b2_z := b2.free
  have b2_l := b2.lt
  go_wp2_with fail
  refine (rightDisk_v h).mono ?_
  rintro e1 w1 ⟨rfl, he⟩
  try clear b2_0 b2_1 b2_z b2_l
  have hx := ext_trans hx he
  have h := h.ext he
  have b2 := b2.ext he
  clear he
  cases hrd : dRight d with
  | false =>
    go_wp2_with fail
    go_ret
    exact ⟨rfl, hx⟩
  | true =>
    by_cases h0 : p < 0
    · have q0 : decide (p < 0) = true := by simpa using h0
      go_wp2_with fail
      go_ret
      exact ⟨rfl, hx⟩
    · have q0 : decide (p < 0) = false := by simpa using h0
      by_cases h6 : 6 ≤ p
      · have q1 : decide (6 ≤ p) = true := by simpa using h6
        go_wp2_with fail
        go_ret
        exact ⟨rfl, hx⟩
      · have q1 : decide (6 ≤ p) = false := by simpa using h6
        have HF := Lib.hid (dRight_fine hrd)
        have hf40 : d.late.length ≤ 40 := HF.out.late
        have PI := Lib.hid (dRight_in hrd (by omega) (by omega : p < 6))
        have P1 := Lib.hid (pMend_look PI.out (by omega))
        have P2 := Lib.hid (pMend_twice PI.out (by omega))
        have HM := Lib.hid (HF.out.mend (by omega) p)
        have P3 : Hid ((pMend d p).2 = (pLook d p).1) := Lib.hid (by unfold pMend; split <;> rfl)
        clear hrd
        obtain ⟨b2_0, b2_1⟩ := b2.c2
        have b2_z := b2.free
        have b2_l := b2.lt
        go_wp2_with fail
        refine (look_v (p := p) h HF.out.ok).mono ?_
        rintro e2 w2 ⟨v3, rfl, hr3, he⟩
        try clear b2_0 b2_1 b2_z b2_l
        have hx := ext_trans hx he
        have h := h.ext he
        have b2 := b2.ext he
        clear he
        clear q0 q1
        obtain ⟨r3, hr3'⟩ : ∃ r, (pLook d p).2 = r := ⟨_, rfl⟩
        obtain ⟨how, hhow⟩ : ∃ r, (pLook d p).1 = r := ⟨_, rfl⟩
        have P1 := P1.out
        have P2 := P2.out
        have P3 := P3.out
        rw [hr3'] at hr3 P1 P2
        rw [hhow] at P3 ⊢
        clear hr3' hhow
        obtain ⟨y, hy⟩ : ∃ y, (if r3.kind = 1 then (0 : Int) else 1) = y := ⟨_, rfl⟩
        rw [hy] at P1 P2
        have P1 := Lib.hid P1
        have P2 := Lib.hid P2
        have P3 := Lib.hid P3
        have HY := Lib.hid hy
        clear hy
        obtain ⟨A3, n3, c3, rfl, _, hy3⟩ := hr3.at_
        go_upto_region 6 with (fail)
        generalize hwn : World.alloc w2 _ = w3
        have he : Ext w2 w3 := by rw [← hwn]; exact ext_alloc _ _
        have b6 : Box w3 w2.heap.size 32 #[.int .i64 r3.kind, .int .i64 r3.key, .int .i64 r3.ver, .slice A3 n3 c3] := by rw [← hwn]; exact Box.new _ _ _ (by simp)
        clear hwn hy3
        have hx := ext_trans hx he
        have h := h.ext he
        have b2 := b2.ext he
        have hr3 := hr3.ext he
        clear he
        obtain ⟨b2_0, b2_1⟩ := b2.c2
        have b2_z := b2.free
        have b2_l := b2.lt
        go_wp2_with fail
        refine (mend_v (p := p) h HF.out.ok (by omega)).mono ?_
        rintro e4 w4 ⟨v4, q4, rfl, hq4, d4, he⟩
        try clear b2_0 b2_1 b2_z b2_l
        have hx := ext_trans hx he
        have h := h.ext he
        have b2 := b2.ext he
        have b6 := b6.ext he
        have hr3 := hr3.ext he
        clear he
        obtain rfl : q4 = how := hq4.out.trans P3.out
        clear hq4 h b2
        generalize (pMend d p).1 = dm at d4 P1 P2 HM
        obtain ⟨A4, n4, c4, E4, m4, e4, rfl, _, _, _, _, _, _⟩ := d4.form
        go_upto_region 7 with (fail)
        generalize hwn : World.alloc w4 _ = w5
        have he : Ext w4 w5 := by rw [← hwn]; exact ext_alloc _ _
        have b7 : Box w5 w4.heap.size 46 #[.slice A4 n4 c4, .slice E4 m4 e4] := by rw [← hwn]; exact Box.new _ _ _ (by simp)
        clear hwn
        have hx := ext_trans hx he
        have b6 := b6.ext he
        have hr3 := hr3.ext he
        have d4 := d4.ext he
        clear he
        obtain ⟨b7_0, b7_1⟩ := b7.c2
        have b7_z := b7.free
        have b7_l := b7.lt
        go_wp2_with fail
        refine (look_v (d := dm) (p := p) d4 HM.out.ok).mono ?_
        rintro e6 w6 ⟨v6, rfl, hr6, he⟩
        try clear b7_0 b7_1 b7_z b7_l
        have hx := ext_trans hx he
        have b6 := b6.ext he
        have b7 := b7.ext he
        have hr3 := hr3.ext he
        have d4 := d4.ext he
        clear he
        rw [P1.out] at hr6
        rw [P1.out]
        simp only at hr6
        obtain ⟨A6, n6, c6, rfl, _, hy6⟩ := hr6.at_
        go_upto_region 8 with (fail)
        generalize hwn : World.alloc w6 _ = w7
        have he : Ext w6 w7 := by rw [← hwn]; exact ext_alloc _ _
        have b10 : Box w7 w6.heap.size 32 #[.int .i64 r3.kind, .int .i64 r3.key, .int .i64 r3.ver, .slice A6 n6 c6] := by rw [← hwn]; exact Box.new _ _ _ (by simp)
        clear hwn hy6
        have hx := ext_trans hx he
        have b6 := b6.ext he
        have b7 := b7.ext he
        have hr3 := hr3.ext he
        have hr6 := hr6.ext he
        have d4 := d4.ext he
        clear he
        obtain ⟨b7_0, b7_1⟩ := b7.c2
        have b7_z := b7.free
        have b7_l := b7.lt
        go_wp2_with fail
        refine (mend_v (d := dm) (p := p) d4 HM.out.ok (by have := HM.out.late; omega)).mono ?_
        rintro e8 w8 ⟨v8, q8, rfl, hq8, d8, he⟩
        try clear b7_0 b7_1 b7_z b7_l
        have hx := ext_trans hx he
        have b6 := b6.ext he
        have b7 := b7.ext he
        have b10 := b10.ext he
        have hr3 := hr3.ext he
        have hr6 := hr6.ext he
        have d4 := d4.ext he
        clear he
        have hq8 := hq8.out
        rw [P2.out] at hq8 d8
        simp only at hq8 d8
        subst hq8
        obtain ⟨A8, n8, c8, E8, m8, e8, rfl, _, _, _, _, _, _⟩ := d8.form
        go_upto_region 9 with (fail)
        generalize hwn : World.alloc w8 _ = w9
        have he : Ext w8 w9 := by rw [← hwn]; exact ext_alloc _ _
        have b11 : Box w9 w8.heap.size 46 #[.slice A8 n8 c8, .slice E8 m8 e8] := by rw [← hwn]; exact Box.new _ _ _ (by simp)
        clear hwn
        have hx := ext_trans hx he
        have b6 := b6.ext he
        have b7 := b7.ext he
        have b10 := b10.ext he
        have hr3 := hr3.ext he
        have hr6 := hr6.ext he
        have d4 := d4.ext he
        have d8 := d8.ext he
        clear he
        have q2 : (q4 == q4) = true := by simp
        by_cases hk : r3.kind = 1
        · have q3 : (r3.kind == 1) = true := by simpa using hk
          have hy := HY.out
          rw [if_pos hk] at hy
          subst hy
          clear hk
          obtain ⟨b6_0, b6_1, b6_2, b6_3⟩ := b6.c4
          have b6_z := b6.free
          have b6_l := b6.lt
          obtain ⟨b10_0, b10_1, b10_2, b10_3⟩ := b10.c4
          have b10_z := b10.free
          have b10_l := b10.lt
          go_wp2_with fail
          refine (refSame_v (r := r3) (s := r3) hr3 hr6).mono ?_
          rintro e10 w10 ⟨rfl, he⟩
          try clear b6_0 b6_1 b6_2 b6_3 b6_z b6_l b10_0 b10_1 b10_2 b10_3 b10_z b10_l
          have hx := ext_trans hx he
          have b6 := b6.ext he
          have b7 := b7.ext he
          have b10 := b10.ext he
          have b11 := b11.ext he
          have d4 := d4.ext he
          have d8 := d8.ext he
          clear he
          rw [rSame_id]
          clear q3
          obtain ⟨b7_0, b7_1⟩ := b7.c2
          have b7_z := b7.free
          have b7_l := b7.lt
          obtain ⟨b11_0, b11_1⟩ := b11.c2
          have b11_z := b11.free
          have b11_l := b11.lt
          go_wp2_with fail
          refine (sameDisk_v d4 d8).mono ?_
          rintro e11 w11 ⟨rfl, he⟩
          try clear b7_0 b7_1 b7_z b7_l b11_0 b11_1 b11_z b11_l
          have hx := ext_trans hx he
          have b7 := b7.ext he
          have b11 := b11.ext he
          clear he
          rw [dSame_id]
          go_wp2_with fail
          go_ret
          exact ⟨rfl, hx⟩
        · have q3 : (r3.kind == 1) = false := by simpa using hk
          have hy := HY.out
          rw [if_neg hk] at hy
          subst hy
          clear hk
          obtain ⟨b6_0, b6_1, b6_2, b6_3⟩ := b6.c4
          have b6_z := b6.free
          have b6_l := b6.lt
          obtain ⟨b10_0, b10_1, b10_2, b10_3⟩ := b10.c4
          have b10_z := b10.free
          have b10_l := b10.lt
          go_wp2_with fail
          refine (refSame_v (r := r3) (s := r3) hr3 hr6).mono ?_
          rintro e10 w10 ⟨rfl, he⟩
          try clear b6_0 b6_1 b6_2 b6_3 b6_z b6_l b10_0 b10_1 b10_2 b10_3 b10_z b10_l
          have hx := ext_trans hx he
          have b6 := b6.ext he
          have b7 := b7.ext he
          have b10 := b10.ext he
          have b11 := b11.ext he
          have d4 := d4.ext he
          have d8 := d8.ext he
          clear he
          rw [rSame_id]
          clear q3
          obtain ⟨b7_0, b7_1⟩ := b7.c2
          have b7_z := b7.free
          have b7_l := b7.lt
          obtain ⟨b11_0, b11_1⟩ := b11.c2
          have b11_z := b11.free
          have b11_l := b11.lt
          go_wp2_with fail
          refine (sameDisk_v d4 d8).mono ?_
          rintro e11 w11 ⟨rfl, he⟩
          try clear b7_0 b7_1 b7_z b7_l b11_0 b11_1 b11_z b11_l
          have hx := ext_trans hx he
          have b7 := b7.ext he
          have b11 := b11.ext he
          clear he
          rw [dSame_id]
          go_wp2_with fail
          go_ret
          exact ⟨rfl, hx⟩
end Go.Proofs.Ytnganglmpcbcbaa

