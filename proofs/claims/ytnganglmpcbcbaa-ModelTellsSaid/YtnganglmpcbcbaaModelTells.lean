/- The statement ModelTells: the walk of the law. -/
import Derived.Test.YtnganglmpcbcbaaG3
namespace Go.Proofs.Ytnganglmpcbcbaa
open Go Go.RowKit

theorem str_ne (l : List UInt8) : (l != l) = false := by simp
theorem mDo_len {l : List Rec} {d : Ded} (h : l.length ≤ 4096) : (mDo l d).1.length ≤ 5000 := by
  unfold mDo
  split
  · split
    · have := List.length_eraseIdx_le l (mIdx l d.key d.n)
      simp only
      omega
    · simp only
      omega
  · split
    · simp only; omega
    · split
      · simp only; omega
      · simp only [List.length_append, List.length_cons, List.length_nil]; omega

set_option maxRecDepth 100000 in
set_option maxHeartbeats 4000000 in
theorem modelTells_law (w : World) {v u dv : Value} {l m : List Rec} {d : Ded} {key : Int} (h : Row eRec [] w w.heap.size v l) (h' : Row eRec [] w w.heap.size u m) (hd : DedV w w.heap.size dv d) :
    Calls Try.prog 11 #[v, u, dv, .int .i64 key] w fun e w' => e = .returned (.bool true) ∧ Ext w w' := by
  obtain ⟨A, n, c, rfl, hc, hcm, HN⟩ := h.form
  obtain ⟨A', n', c', rfl, hc', hcm', HN'⟩ := h'.form
  obtain ⟨A2, n2, c2, rfl, hy, hyt⟩ := hd.at_
  obtain ⟨k, y, x, b⟩ := d
  simp only at hy hyt hd ⊢
  unfold maxLen at hcm hcm'
  go_enter Try.func11, Try.ntmps11
  go_upto_region 1 with (fail)
  generalize hwn : World.alloc _ (Obj.cells #[.int .i64 k, .int .i64 y, .int .i64 x, .slice A2 n2 c2] 64) = w0
  have hx := ext_st hwn
  have b6 := box_st hwn
  clear hwn
  obtain ⟨d, hd'⟩ : ∃ d : Ded, d = ⟨k, y, x, b⟩ := ⟨_, rfl⟩
  rw [← hd'] at hd
  have HK : Hid (d.kind = k) := Lib.hid (by rw [hd'])
  clear hd'
  have hx := hx.drew
  have b6 := b6.drew
  refine wp_region_ext 5 [0, 2, 4] false rfl (by kernel_rfl) (by kernel_rfl) ?_
  generalize w0.drew = D at hx b6 ⊢
  have h := h.ext hx
  have h' := h'.ext hx
  have hd := hd.ext hx
  apply mixF 0 (by kernel_rfl) (by rfl) (by rfl)
  · (intro w' hx; obtain ⟨x0, x1, x2, x3⟩ := (b6.below hx b6.lt).c4; go_simp <;> with_reducible rfl)
  simp only [Act.put, List.setIfInBounds_toArray, List.set_cons_zero, List.set_cons_succ]
  apply mixF 2 (by kernel_rfl) (by rfl) (by rfl)
  · (intro w' hx; obtain ⟨x0, x1, x2, x3⟩ := (b6.below hx b6.lt).c4; go_simp <;> with_reducible rfl)
  simp only [Act.put, List.setIfInBounds_toArray, List.set_cons_zero, List.set_cons_succ]
  refine mixS 1 (by kernel_rfl) (by kernel_rfl) (by rfl) (by rfl) (fun K hK => ?_)
  go_wp2_with (go_at_call 62; refine (mWrong_v hd).mono ?_; rintro e w1 ⟨rfl, he⟩)
  refine hK.out _ _ (he) ?_
  clear hK K
  try simp only [Act.put, List.setIfInBounds_toArray, List.set_cons_zero, List.set_cons_succ]
  have hx := ext_trans hx he
  have b6 := b6.ext he
  have h := h.ext he
  have h' := h'.ext he
  have hd := hd.ext he
  clear he
  refine mixS 3 (by kernel_rfl) (by kernel_rfl) (by rfl) (by rfl) (fun K hK => ?_)
  go_wp2_with (go_at_call 63; refine (rWrongDeed_v hd).mono ?_; rintro e w2 ⟨rfl, he⟩)
  refine hK.out _ _ (he) ?_
  clear hK K
  try simp only [Act.put, List.setIfInBounds_toArray, List.set_cons_zero, List.set_cons_succ]
  have hx := ext_trans hx he
  have b6 := b6.ext he
  have h := h.ext he
  have h' := h'.ext he
  have hd := hd.ext he
  clear he
  have q0 : (mWrong d != mWrong d) = false := by simp
  apply mixF 4 (by kernel_rfl) (by rfl) (by rfl)
  · (intro w' hx; go_simp <;> with_reducible rfl)
  simp only [Act.put, List.setIfInBounds_toArray, List.set_cons_zero, List.set_cons_succ]
  refine mixEnd (by kernel_rfl) ?_
  clear q0
  go_wp2_with fail
  refine (rightRecords_v h).mono ?_
  rintro e3 w3 ⟨rfl, he⟩
  have hx := ext_trans hx he
  have b6 := b6.ext he
  have h := h.ext he
  have h' := h'.ext he
  have hd := hd.ext he
  clear he
  cases hrl : mRight l with
  | false =>
    go_wp2_with fail
    go_ret
    exact ⟨rfl, hx⟩
  | true =>
    go_wp2_with fail
    refine (rightRecords_v h').mono ?_
    rintro e4 w4 ⟨rfl, he⟩
    have hx := ext_trans hx he
    have b6 := b6.ext he
    have h := h.ext he
    have h' := h'.ext he
    have hd := hd.ext he
    clear he
    cases hrm : mRight m with
    | false =>
      go_wp2_with fail
      go_ret
      exact ⟨rfl, hx⟩
    | true =>
      have HL := Lib.hid (mRight_mem hrl)
      have HM := Lib.hid (mRight_mem hrm)
      have hl40 : l.length ≤ 40 := by unfold mRight at hrl; simp only [Bool.and_eq_true, decide_eq_true_eq] at hrl; exact hrl.2
      clear hrl hrm
      go_wp2_with fail
      refine (mGet_v (key := key) h HL.out).mono ?_
      rintro e5 w5 ⟨v5, q5, rfl, hq5, hy5, he⟩
      have hx := ext_trans hx he
      have b6 := b6.ext he
      have h := h.ext he
      have h' := h'.ext he
      have hd := hd.ext he
      clear he
      go_wp2_with fail
      refine (rGet_v (key := key) h HL.out).mono ?_
      rintro e6 w6 ⟨v6, q6, rfl, hq6, hy6, he⟩
      have hx := ext_trans hx he
      have b6 := b6.ext he
      have h := h.ext he
      have h' := h'.ext he
      have hd := hd.ext he
      have hy5 := hy5.ext he
      clear he
      obtain rfl : q6 = q5 := hq6.out.trans hq5.out.symm
      obtain ⟨A5, n5, c5, rfl, hy5, _⟩ := hy5.form
      obtain ⟨A6, n6, c6, rfl, hy6, _⟩ := hy6.form
      have s1 := run_str hy5
      have s2 := run_str hy6
      have q1 : (q6 != q6) = false := by simp
      have q2 := str_ne (mGet l key).1
      clear hq5 hq6
      generalize (mGet l key).1 = g5 at s1 s2 q2
      go_wp2_with fail
      refine (mNext_v h HL.out).mono ?_
      rintro e7 w7 ⟨rfl, he⟩
      clear s1 s2 q1 q2 hy5 hy6
      have hx := ext_trans hx he
      have b6 := b6.ext he
      have h := h.ext he
      have h' := h'.ext he
      have hd := hd.ext he
      clear he
      go_wp2_with fail
      refine (rNext_v h HL.out).mono ?_
      rintro e8 w8 ⟨rfl, he⟩
      have hx := ext_trans hx he
      have b6 := b6.ext he
      have h := h.ext he
      have h' := h'.ext he
      have hd := hd.ext he
      clear he
      have q1 : (mNext l != mNext l) = false := by simp
      go_wp2_with fail
      refine (mSame_v h h').mono ?_
      rintro e9 w9 ⟨rfl, he⟩
      clear q1
      have hx := ext_trans hx he
      have b6 := b6.ext he
      have h := h.ext he
      have h' := h'.ext he
      have hd := hd.ext he
      clear he
      go_wp2_with fail
      refine (rSameRecs_v h h').mono ?_
      rintro e10 w10 ⟨rfl, he⟩
      have hx := ext_trans hx he
      have b6 := b6.ext he
      have h := h.ext he
      have h' := h'.ext he
      have hd := hd.ext he
      clear he
      have q1 : (mSame l m != mSame l m) = false := by simp
      generalize mSame l m = qs at q1
      obtain ⟨b6_0, b6_1, b6_2, b6_3⟩ := b6.c4
      have b6_z := b6.free
      have b6_l := b6.lt
      go_wp2_with fail
      refine (rWrongDeed_v hd).mono ?_
      rintro e11 w11 ⟨rfl, he⟩
      clear q1
      try clear b6_0 b6_1 b6_2 b6_3 b6_z b6_l
      have hx := ext_trans hx he
      have b6 := b6.ext he
      have h := h.ext he
      have h' := h'.ext he
      have hd := hd.ext he
      clear he
      by_cases hw : mWrong d = 0
      · have q1 : (mWrong d != 0) = false := by simpa using hw
        have HW := Lib.hid hw
        clear hw
        obtain ⟨b6_0, b6_1, b6_2, b6_3⟩ := b6.c4
        have b6_z := b6.free
        have b6_l := b6.lt
        go_wp2_with fail
        refine (mDo_d h HL.out (by omega) hx.size hd HW.out).mono ?_
        rintro e12 w12 ⟨v12, m12, q12, rfl, hm12, hq12, o12, he⟩
        try clear b6_0 b6_1 b6_2 b6_3 b6_z b6_l
        clear q1
        have hx := ext_trans hx he
        have b6 := b6.ext he
        have h := h.ext he
        have h' := h'.ext he
        have hd := hd.ext he
        clear he
        have F12 := o12.row (T := [32]) (base := w.heap.size) (by decide) (Nat.le_refl _)
        clear o12
        obtain ⟨A12, n12, c12, rfl, hc12, hcm12, HN12⟩ := F12.form
        obtain ⟨b6_0, b6_1, b6_2, b6_3⟩ := b6.c4
        have b6_z := b6.free
        have b6_l := b6.lt
        go_wp2_with fail
        refine (rDo_d h HL.out (by omega) hd HW.out).mono ?_
        rintro e13 w13 ⟨v13, m13, q13, rfl, hm13, hq13, F13, he⟩
        try clear b6_0 b6_1 b6_2 b6_3 b6_z b6_l
        have hx := ext_trans hx he
        have b6 := b6.ext he
        have h := h.ext he
        have h' := h'.ext he
        have hd := hd.ext he
        have F12 := F12.ext he
        clear he
        obtain ⟨A13, n13, c13, rfl, hc13, hcm13, HN13⟩ := F13.form
        obtain rfl : m13 = m12 := hm13.out.trans hm12.out.symm
        obtain rfl : q13 = q12 := hq13.out.trans hq12.out.symm
        obtain rfl : n13 = n12 := HN13.out.trans HN12.out.symm
        have hn13 : n13 ≤ 5000 := by rw [HN13.out]; exact mDo_len (by omega)
        clear hm12 hm13 hq12 hq13 HN12
        generalize (mDo l d).1 = z at F12 F13 HN13
        have q1 : (q13 != q13) = false := by simp
        have q2 : (m13 != m13) = false := by simp
        have q3 : ((n13 : Int) != (n13 : Int)) = false := by simp
        go_wp2_with fail
        clear q1 q2 q3
        unfold maxLen at hcm12 hcm13
        go_loopw [103] (fun i wr => ∃ a : Nat, a ≤ n13 ∧ i = .int .i64 a ∧ Ext w13 wr) (fun i _ => n13 - (intOf i).toNat)
        case atStart => exact ⟨0, by omega, rfl, Below.refl _ _⟩
        case round =>
          obtain ⟨a, ha, rfl, hd0⟩ := hrel
          have hx := ext_trans hx hd0
          have b6 := b6.ext hd0
          have hd := hd.ext hd0
          have F12 := F12.ext hd0
          have F13 := F13.ext hd0
          by_cases hlt : a < n13
          · have e0 : (0 : Int) ≤ (a : Int) := by omega
            have e1 : (a : Int) < (n13 : Int) := by omega
            go_upto_region 18 with (fail)
            have hx := hx.drew
            have hd0 := hd0.drew
            have F12 := F12.ext ((Below.refl _ _).drew)
            have F13 := F13.ext ((Below.refl _ _).drew)
            refine wp_region_ext 10 [0, 1, 2, 3, 4, 5, 6, 7, 9] false rfl (by kernel_rfl) (by kernel_rfl) ?_
            generalize wr.drew = D at hx hd0 F12 F13 ⊢
            obtain ⟨g1, o1, u1, rfl, hg1, hu1, f1⟩ := F12.rec_x hlt
            obtain ⟨g2, o2, u2, rfl, hg2, hu2, f2⟩ := F13.rec_x hlt
            generalize z.getD a rZero = r at hu1 hu2 f1 f2
            apply mixF 0 (by kernel_rfl) (by rfl) (by rfl)
            · (intro w' hx; obtain ⟨x0, x1, x2, x3⟩ := f1 _ hx; obtain ⟨y0, y1, y2, y3⟩ := f2 _ hx; go_simp <;> with_reducible rfl)
            simp only [Act.put, List.setIfInBounds_toArray, List.set_cons_zero, List.set_cons_succ]
            apply mixF 1 (by kernel_rfl) (by rfl) (by rfl)
            · (intro w' hx; obtain ⟨x0, x1, x2, x3⟩ := f1 _ hx; obtain ⟨y0, y1, y2, y3⟩ := f2 _ hx; go_simp <;> with_reducible rfl)
            simp only [Act.put, List.setIfInBounds_toArray, List.set_cons_zero, List.set_cons_succ]
            apply mixF 2 (by kernel_rfl) (by rfl) (by rfl)
            · (intro w' hx; obtain ⟨x0, x1, x2, x3⟩ := f1 _ hx; obtain ⟨y0, y1, y2, y3⟩ := f2 _ hx; go_simp <;> with_reducible rfl)
            simp only [Act.put, List.setIfInBounds_toArray, List.set_cons_zero, List.set_cons_succ]
            apply mixF 3 (by kernel_rfl) (by rfl) (by rfl)
            · (intro w' hx; obtain ⟨x0, x1, x2, x3⟩ := f1 _ hx; obtain ⟨y0, y1, y2, y3⟩ := f2 _ hx; go_simp <;> with_reducible rfl)
            simp only [Act.put, List.setIfInBounds_toArray, List.set_cons_zero, List.set_cons_succ]
            apply mixF 4 (by kernel_rfl) (by rfl) (by rfl)
            · (intro w' hx; obtain ⟨x0, x1, x2, x3⟩ := f1 _ hx; obtain ⟨y0, y1, y2, y3⟩ := f2 _ hx; go_simp <;> with_reducible rfl)
            simp only [Act.put, List.setIfInBounds_toArray, List.set_cons_zero, List.set_cons_succ]
            apply mixF 5 (by kernel_rfl) (by rfl) (by rfl)
            · (intro w' hx; obtain ⟨x0, x1, x2, x3⟩ := f1 _ hx; obtain ⟨y0, y1, y2, y3⟩ := f2 _ hx; go_simp <;> with_reducible rfl)
            simp only [Act.put, List.setIfInBounds_toArray, List.set_cons_zero, List.set_cons_succ]
            apply mixF 6 (by kernel_rfl) (by rfl) (by rfl)
            · (intro w' hx; obtain ⟨x0, x1, x2, x3⟩ := f1 _ hx; obtain ⟨y0, y1, y2, y3⟩ := f2 _ hx; go_simp <;> with_reducible rfl)
            simp only [Act.put, List.setIfInBounds_toArray, List.set_cons_zero, List.set_cons_succ]
            apply mixF 7 (by kernel_rfl) (by rfl) (by rfl)
            · (intro w' hx; obtain ⟨x0, x1, x2, x3⟩ := f1 _ hx; obtain ⟨y0, y1, y2, y3⟩ := f2 _ hx; go_simp <;> with_reducible rfl)
            simp only [Act.put, List.setIfInBounds_toArray, List.set_cons_zero, List.set_cons_succ]
            clear f1 f2
            refine mixS 8 (by kernel_rfl) (by kernel_rfl) (by rfl) (by rfl) (fun K hK => ?_)
            go_wp2_with (go_at_call 36; refine (refSame_v (RecV.mk hu1) (RecV.mk hu2)).mono ?_; rintro e w14 ⟨rfl, he⟩)
            refine hK.out _ _ (he) ?_
            clear hK K
            try simp only [Act.put, List.setIfInBounds_toArray, List.set_cons_zero, List.set_cons_succ]
            have q1 : rSame ⟨r.kind, r.key, r.ver, r.data⟩ ⟨r.kind, r.key, r.ver, r.data⟩ = true := (rSame_iff _ _).2 rfl
            rw [q1]
            clear q1
            apply mixF 9 (by kernel_rfl) (by rfl) (by rfl)
            · (intro w' hx; go_simp <;> with_reducible rfl)
            simp only [Act.put, List.setIfInBounds_toArray, List.set_cons_zero, List.set_cons_succ]
            refine mixEnd (by kernel_rfl) ?_
            go_wp2_with fail
            refine ⟨⟨a + 1, by omega, rfl, ext_trans hd0 he⟩, ?_⟩
            simp only [intOf]
            omega
          · clear F12 F13 HN13 ha
            by_cases hk : k = 3
            · subst hk
              go_upto_region 21 with (fail)
              have hx := hx.drew
              have b6 := b6.drew
              refine wp_region_ext 11 [0, 1, 2, 3, 4, 5, 6, 7, 8, 9, 10] false rfl (by kernel_rfl) (by kernel_rfl) ?_
              generalize wr.drew = D at hx b6 ⊢
              apply mixF 0 (by kernel_rfl) (by rfl) (by rfl)
              · (intro w' hx; obtain ⟨x0, x1, x2, x3⟩ := (b6.below hx b6.lt).c4; go_simp <;> with_reducible rfl)
              simp only [Act.put, List.setIfInBounds_toArray, List.set_cons_zero, List.set_cons_succ]
              apply mixF 1 (by kernel_rfl) (by rfl) (by rfl)
              · (intro w' hx; obtain ⟨x0, x1, x2, x3⟩ := (b6.below hx b6.lt).c4; go_simp <;> with_reducible rfl)
              simp only [Act.put, List.setIfInBounds_toArray, List.set_cons_zero, List.set_cons_succ]
              apply mixF 2 (by kernel_rfl) (by rfl) (by rfl)
              · (intro w' hx; obtain ⟨x0, x1, x2, x3⟩ := (b6.below hx b6.lt).c4; go_simp <;> with_reducible rfl)
              simp only [Act.put, List.setIfInBounds_toArray, List.set_cons_zero, List.set_cons_succ]
              apply mixF 3 (by kernel_rfl) (by rfl) (by rfl)
              · (intro w' hx; obtain ⟨x0, x1, x2, x3⟩ := (b6.below hx b6.lt).c4; go_simp <;> with_reducible rfl)
              simp only [Act.put, List.setIfInBounds_toArray, List.set_cons_zero, List.set_cons_succ]
              refine mixFskip 4 (by kernel_rfl) (by rfl) (by rfl) ?_
              simp only [Act.put, List.setIfInBounds_toArray, List.set_cons_zero, List.set_cons_succ]
              refine mixFskip 5 (by kernel_rfl) (by rfl) (by rfl) ?_
              simp only [Act.put, List.setIfInBounds_toArray, List.set_cons_zero, List.set_cons_succ]
              refine mixFskip 6 (by kernel_rfl) (by rfl) (by rfl) ?_
              simp only [Act.put, List.setIfInBounds_toArray, List.set_cons_zero, List.set_cons_succ]
              refine mixFskip 7 (by kernel_rfl) (by rfl) (by rfl) ?_
              simp only [Act.put, List.setIfInBounds_toArray, List.set_cons_zero, List.set_cons_succ]
              refine mixFskip 8 (by kernel_rfl) (by rfl) (by rfl) ?_
              simp only [Act.put, List.setIfInBounds_toArray, List.set_cons_zero, List.set_cons_succ]
              apply mixF 9 (by kernel_rfl) (by rfl) (by rfl)
              · (intro w' hx; go_simp <;> with_reducible rfl)
              simp only [Act.put, List.setIfInBounds_toArray, List.set_cons_zero, List.set_cons_succ]
              apply mixF 10 (by kernel_rfl) (by rfl) (by rfl)
              · (intro w' hx; go_simp <;> with_reducible rfl)
              simp only [Act.put, List.setIfInBounds_toArray, List.set_cons_zero, List.set_cons_succ]
              refine mixEnd (by kernel_rfl) ?_
              go_wp2_with fail
              go_ret
              exact ⟨rfl, hx⟩
            · have q1 : (k == 3) = false := by simpa using hk
              have hk3 : d.kind ≠ 3 := by rw [HK.out]; exact hk
              go_upto_region 21 with (fail)
              have hx := hx.drew
              have b6 := b6.drew
              have hd := hd.ext ((Below.refl _ _).drew)
              refine wp_region_ext 11 [0, 1, 2, 3, 4, 6, 9, 10] false rfl (by kernel_rfl) (by kernel_rfl) ?_
              generalize wr.drew = D at hx b6 hd ⊢
              apply mixF 0 (by kernel_rfl) (by rfl) (by rfl)
              · (intro w' hx; obtain ⟨x0, x1, x2, x3⟩ := (b6.below hx b6.lt).c4; go_simp <;> with_reducible rfl)
              simp only [Act.put, List.setIfInBounds_toArray, List.set_cons_zero, List.set_cons_succ]
              apply mixF 1 (by kernel_rfl) (by rfl) (by rfl)
              · (intro w' hx; obtain ⟨x0, x1, x2, x3⟩ := (b6.below hx b6.lt).c4; go_simp <;> with_reducible rfl)
              simp only [Act.put, List.setIfInBounds_toArray, List.set_cons_zero, List.set_cons_succ]
              apply mixF 2 (by kernel_rfl) (by rfl) (by rfl)
              · (intro w' hx; obtain ⟨x0, x1, x2, x3⟩ := (b6.below hx b6.lt).c4; go_simp <;> with_reducible rfl)
              simp only [Act.put, List.setIfInBounds_toArray, List.set_cons_zero, List.set_cons_succ]
              apply mixF 3 (by kernel_rfl) (by rfl) (by rfl)
              · (intro w' hx; obtain ⟨x0, x1, x2, x3⟩ := (b6.below hx b6.lt).c4; go_simp <;> with_reducible rfl)
              simp only [Act.put, List.setIfInBounds_toArray, List.set_cons_zero, List.set_cons_succ]
              apply mixF 4 (by kernel_rfl) (by rfl) (by rfl)
              · (intro w' hx; obtain ⟨x0, x1, x2, x3⟩ := (b6.below hx b6.lt).c4; go_simp <;> with_reducible rfl)
              simp only [Act.put, List.setIfInBounds_toArray, List.set_cons_zero, List.set_cons_succ]
              apply mixF 6 (by kernel_rfl) (by rfl) (by rfl)
              · (intro w' hx; obtain ⟨x0, x1, x2, x3⟩ := (b6.below hx b6.lt).c4; go_simp <;> with_reducible rfl)
              simp only [Act.put, List.setIfInBounds_toArray, List.set_cons_zero, List.set_cons_succ]
              refine mixS 5 (by kernel_rfl) (by kernel_rfl) (by rfl) (by rfl) (fun K hK => ?_)
              go_wp2_with (go_at_call 73; refine (mMade_d hd HW.out hk3).mono ?_; rintro e w14 ⟨r3, rfl, hr3, he⟩)
              refine hK.out _ _ (he) ?_
              clear hK K
              try simp only [Act.put, List.setIfInBounds_toArray, List.set_cons_zero, List.set_cons_succ]
              have hx := ext_trans hx he
              have hd := hd.ext he
              clear he
              refine mixS 7 (by kernel_rfl) (by kernel_rfl) (by rfl) (by rfl) (fun K hK => ?_)
              go_wp2_with (go_at_call 74; refine (rMade_d hd HW.out hk3).mono ?_; rintro e w15 ⟨r4, rfl, hr4, he⟩)
              refine hK.out _ _ (he) ?_
              clear hK K
              try simp only [Act.put, List.setIfInBounds_toArray, List.set_cons_zero, List.set_cons_succ]
              have hx := ext_trans hx he
              have hr3 := hr3.ext he
              clear he
              refine mixS 8 (by kernel_rfl) (by kernel_rfl) (by rfl) (by rfl) (fun K hK => ?_)
              go_wp2_with (go_at_call 36; refine (refSame_v hr3 hr4).mono ?_; rintro e w16 ⟨rfl, he⟩)
              refine hK.out _ _ (he) ?_
              clear hK K
              try simp only [Act.put, List.setIfInBounds_toArray, List.set_cons_zero, List.set_cons_succ]
              rw [(rSame_iff (mMade d 5) (mMade d 5)).2 rfl]
              apply mixF 9 (by kernel_rfl) (by rfl) (by rfl)
              · (intro w' hx; go_simp <;> with_reducible rfl)
              simp only [Act.put, List.setIfInBounds_toArray, List.set_cons_zero, List.set_cons_succ]
              apply mixF 10 (by kernel_rfl) (by rfl) (by rfl)
              · (intro w' hx; go_simp <;> with_reducible rfl)
              simp only [Act.put, List.setIfInBounds_toArray, List.set_cons_zero, List.set_cons_succ]
              refine mixEnd (by kernel_rfl) ?_
              go_wp2_with fail
              go_ret
              exact ⟨rfl, ext_trans hx he⟩
      · have q1 : (mWrong d != 0) = true := by simpa using hw
        clear hw
        go_wp2_with fail
        go_ret
        exact ⟨rfl, hx⟩
end Go.Proofs.Ytnganglmpcbcbaa

