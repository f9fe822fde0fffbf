/- The statement ModelPurge: the walk of the law. -/
import Derived.Test.YtnganglmpcbcbaaModelNew
namespace Go.Proofs.Ytnganglmpcbcbaa
open Go Go.RowKit

theorem purge_right {k y x n : Int} {b : List UInt8} (h : mWrong ⟨k, y, x, b⟩ = 0) (h1 : 1 ≤ n) (h2 : n ≤ 60000) : mWrong ⟨3, y, n, []⟩ = 0 := by
  obtain ⟨_, h3, h4, _⟩ := mWrong_zero h
  simp only at h3 h4
  unfold mWrong
  simp only [List.length_nil]
  rw [if_neg (by omega), if_neg (by omega), if_neg (by omega)]

set_option maxRecDepth 100000 in
set_option maxHeartbeats 4000000 in
theorem modelPurge_law (w : World) {v dv : Value} {l : List Rec} {d : Ded} {key : Int} (h : Row eRec [] w w.heap.size v l) (hd : DedV w w.heap.size dv d) :
    Calls Try.prog 13 #[v, dv, .int .i64 key] w fun e w' => e = .returned (.bool true) ∧ Ext w w' := by
  obtain ⟨A, n, c, rfl, hc, hcm, HN⟩ := h.form
  obtain ⟨A2, n2, c2, rfl, hy, hyt⟩ := hd.at_
  obtain ⟨k, y, x, b⟩ := d
  simp only at hy hyt hd ⊢
  unfold maxLen at hcm
  go_enter Try.func13, Try.ntmps13
  go_wp2_with fail
  generalize hwn : World.alloc _ (Obj.cells #[.int .i64 k, .int .i64 y, .int .i64 x, .slice A2 n2 c2] 64) = w0
  have hx := ext_st hwn
  have b6 := box_st hwn
  clear hwn hy hyt
  have h := h.ext hx
  have hd := hd.ext hx
  refine (alive6_w _).mono ?_
  rintro e1 w1 ⟨rfl, he⟩
  have hx := ext_trans hx he
  have b6 := b6.ext he
  have h := h.ext he
  have hd := hd.ext he
  clear he
  go_wp2_with fail
  refine (rightRecords_v h).mono ?_
  rintro e3 w3 ⟨rfl, he⟩
  have hx := ext_trans hx he
  have b6 := b6.ext he
  have h := h.ext he
  have hd := hd.ext he
  clear he
  cases hrl : mRight l with
  | false =>
    go_wp2_with fail
    go_ret
    exact ⟨rfl, hx⟩
  | true =>
    have HL := Lib.hid (mRight_mem hrl)
    have hl40 : l.length ≤ 40 := by unfold mRight at hrl; simp only [Bool.and_eq_true, decide_eq_true_eq] at hrl; exact hrl.2
    clear hrl
    obtain ⟨b6_0, b6_1, b6_2, b6_3⟩ := b6.c4
    have b6_z := b6.free
    have b6_l := b6.lt
    go_wp2_with fail
    refine (mWrong_v hd).mono ?_
    rintro e4 w4 ⟨rfl, he⟩
    try clear b6_0 b6_1 b6_2 b6_3 b6_z b6_l
    have hx := ext_trans hx he
    have b6 := b6.ext he
    have h := h.ext he
    have hd := hd.ext he
    clear he
    by_cases hw : mWrong ⟨k, y, x, b⟩ = 0
    · have q1 : (mWrong ⟨k, y, x, b⟩ != 0) = false := by simpa using hw
      have HW := Lib.hid hw
      clear hw
      by_cases hk : k = 3
      · subst hk
        obtain ⟨b6_0, b6_1, b6_2, b6_3⟩ := b6.c4
        have b6_z := b6.free
        have b6_l := b6.lt
        go_wp2_with fail
        go_ret
        exact ⟨rfl, hx⟩
      · have q2 : (k == 3) = false := by simpa using hk
        have HK3 := Lib.hid hk
        clear hk
        obtain ⟨b6_0, b6_1, b6_2, b6_3⟩ := b6.c4
        have b6_z := b6.free
        have b6_l := b6.lt
        go_wp2_with fail
        refine (mDo_d h HL.out (by omega) hx.size hd HW.out).mono ?_
        rintro e12 w12 ⟨v12, m12, q12, rfl, hm12, hq12, o12, he⟩
        try clear b6_0 b6_1 b6_2 b6_3 b6_z b6_l b6_0 b6_1 b6_2 b6_3 b6_z b6_l
        have hx := ext_trans hx he
        have b6 := b6.ext he
        have h := h.ext he
        have hd := hd.ext he
        clear he
        clear q1
        have F12 := o12.row (T := [32]) (base := w.heap.size) (by decide) (Nat.le_refl _)
        clear o12
        by_cases hq : q12 = 0
        · subst hq
          obtain ⟨h6, h60, hmade⟩ := mDo_made (l := l) (d := ⟨k, y, x, b⟩) HK3.out hq12.out.symm
          rw [hmade] at hm12 F12
          have hm12 := hm12.out
          simp only at hm12 F12
          subst hm12
          have hn1 : 1 ≤ mNext l := by unfold mNext; have := (mMax_bd l HL.out).1; omega
          have ONE := Lib.hid (fun r hr => (List.mem_append.1 hr).elim (HL.out r) (fun h1 => by
            rw [List.mem_singleton.1 h1]
            exact mMade_one HW.out hn1 h60) : ∀ r ∈ l ++ [mMade ⟨k, y, x, b⟩ (mNext l)], rOne r = true)
          have PR := Lib.hid (purge_right HW.out hn1 h60)
          obtain ⟨p1, p2⟩ := mDo_purge l ⟨k, y, x, b⟩ (mNext l) rfl
          simp only at p1 p2
          have P1 := Lib.hid p1
          have P2 := Lib.hid p2
          have hlen : (l ++ [mMade ⟨k, y, x, b⟩ (mNext l)]).length ≤ 4096 := by rw [List.length_append]; simp only [List.length_cons, List.length_nil]; omega
          have HLEN := Lib.hid hlen
          clear hmade hq12 p1 p2 hlen h60 hn1 h6
          generalize mNext l = nn at F12 ONE PR P1 P2 HLEN ⊢
          obtain ⟨b6_0, b6_1, b6_2, b6_3⟩ := b6.c4
          have b6_z := b6.free
          have b6_l := b6.lt
          go_wp2_with fail
          generalize hwn : World.alloc w12 (Obj.cells #[.int .i64 3, .int .i64 y, .int .i64 nn, .slice none 0 0] 64) = w8
          have he := ext_st hwn
          have b10 := box_st hwn
          clear hwn
          try clear b6_0 b6_1 b6_2 b6_3 b6_z b6_l
          have hx := ext_trans hx he
          have h := h.ext he
          have F12 := F12.ext he
          clear he b6 hd
          have hp : DedV w8 w.heap.size (.agg #[.int .i64 3, .int .i64 y, .int .i64 nn, .slice none 0 0]) ⟨3, y, nn, []⟩ := ⟨_, rfl, ByT.nil _ _⟩
          refine (mDo_d F12 ONE.out HLEN.out hx.size hp PR.out).mono ?_
          rintro e13 w13 ⟨v13, m13, q13, rfl, hm13, hq13, o13, he⟩
          rw [P1.out] at hm13 hq13 o13
          have hm13 := hm13.out
          have hq13 := hq13.out
          simp only at hm13 hq13 o13
          subst hm13 hq13
          have hx := ext_trans hx he
          have h := h.ext he
          have b10 := b10.ext he
          have hp := hp.ext he
          clear he F12
          have F13 := o13.row (T := [32]) (base := w.heap.size) (by decide) (Nat.le_refl _)
          clear o13
          obtain ⟨b10_0, b10_1, b10_2, b10_3⟩ := b10.c4
          have b10_z := b10.free
          have b10_l := b10.lt
          go_wp2_with fail
          refine (mDo_d F13 HL.out (by omega) hx.size hp PR.out).mono ?_
          rintro e14 w14 ⟨v14, m14, q14, rfl, hm14, hq14, o14, he⟩
          try clear b10_0 b10_1 b10_2 b10_3 b10_z b10_l
          have hx := ext_trans hx he
          have b10 := b10.ext he
          have h := h.ext he
          have F13 := F13.ext he
          clear he
          rw [P2.out] at hq14
          have hq14 := hq14.out
          subst hq14
          clear hm14 o14
          go_wp2_with fail
          refine (mGet_v (key := key) h HL.out).mono ?_
          rintro e15 w15 ⟨v15, q15, rfl, hq15, hy15, he⟩
          have hx := ext_trans hx he
          have h := h.ext he
          have F13 := F13.ext he
          clear he
          go_wp2_with fail
          refine (mGet_v (key := key) F13 HL.out).mono ?_
          rintro e16 w16 ⟨v16, q16, rfl, hq16, hy16, he⟩
          have hx := ext_trans hx he
          have h := h.ext he
          have F13 := F13.ext he
          have hy15 := hy15.ext he
          clear he
          obtain rfl : q16 = q15 := hq16.out.trans hq15.out.symm
          obtain ⟨A5, n5, c5, rfl, hy5, _⟩ := hy15.form
          obtain ⟨A6, n6, c6, rfl, hy6, _⟩ := hy16.form
          clear hq15 hq16 hy15 hy16
          go_wp2_with fail
          refine (mSame_v F13 h).mono ?_
          rintro e17 w17 ⟨rfl, he⟩
          rw [mSame_refl l]
          have s1 := run_str (hy5.ext he)
          have s2 := run_str (hy6.ext he)
          have q1 : (q16 == q16) = true := by simp
          generalize (mGet l key).1 = g5 at s1 s2
          have q2 : (g5 == g5) = true := by simp
          have hx := ext_trans hx he
          clear hy5 hy6 he
          go_wp2_with fail
          go_ret
          exact ⟨rfl, hx⟩
        · have q3 : (q12 != 0) = true := by simpa using hq
          clear hq
          go_wp2_with fail
          go_ret
          exact ⟨rfl, hx⟩
    · have q1 : (mWrong ⟨k, y, x, b⟩ != 0) = true := by simpa using hw
      clear hw
      go_wp2_with fail
      go_ret
      exact ⟨rfl, hx⟩
end Go.Proofs.Ytnganglmpcbcbaa

