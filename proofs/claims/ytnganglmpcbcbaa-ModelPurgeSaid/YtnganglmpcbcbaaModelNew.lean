/- The statement ModelNew: the walk of the law. -/
import Derived.Test.YtnganglmpcbcbaaModelTells
import Derived.Test.YtnganglmpcbcbaaAlive6
namespace Go.Proofs.Ytnganglmpcbcbaa
open Go Go.RowKit

theorem made_len {l : List Rec} {d : Ded} (h3 : d.kind ≠ 3) (h : (mDo l d).2.2 ≠ 0) : (mDo l d).2.1 = 0 ∧ (mDo l d).1 = l ∧ ((mDo l d).2.2 = 9 ∧ 6 ≤ l.length ∨ (mDo l d).2.2 = 4) := by
  unfold mDo at h ⊢
  rw [if_neg h3] at h ⊢
  split at h
  · rename_i h6
    rw [if_pos h6]
    exact ⟨rfl, rfl, .inl ⟨rfl, h6⟩⟩
  · rename_i h6
    rw [if_neg h6]
    split at h
    · rename_i h7
      rw [if_pos h7]
      exact ⟨rfl, rfl, .inr rfl⟩
    · exact absurd rfl h
theorem mMax_lt {l : List Rec} {a : Nat} (ha : a < l.length) : (l.getD a rZero).ver < mNext l := by
  have := mMax_ge l (l.getD a rZero) (by rw [getD_at ha]; exact List.getElem_mem ha)
  unfold mNext
  omega

set_option maxRecDepth 100000 in
set_option maxHeartbeats 4000000 in
theorem modelNew_law (w : World) {v dv : Value} {l : List Rec} {d : Ded} (h : Row eRec [] w w.heap.size v l) (hd : DedV w w.heap.size dv d) :
    Calls Try.prog 12 #[v, dv] w fun e w' => e = .returned (.bool true) ∧ Ext w w' := by
  obtain ⟨A, n, c, rfl, hc, hcm, HN⟩ := h.form
  obtain ⟨A2, n2, c2, rfl, hy, hyt⟩ := hd.at_
  obtain ⟨k, y, x, b⟩ := d
  simp only at hy hyt hd ⊢
  unfold maxLen at hcm
  go_enter Try.func12, Try.ntmps12
  go_wp2_with fail
  generalize hwn : World.alloc _ (Obj.cells #[.int .i64 k, .int .i64 y, .int .i64 x, .slice A2 n2 c2] 64) = w0
  have hx := ext_st hwn
  have b6 := box_st hwn
  clear hwn
  have h := h.ext hx
  have hd := hd.ext hx
  have hy := hy.ext hx
  refine (alive6_w _).mono ?_
  rintro e1 w1 ⟨rfl, he⟩
  have hx := ext_trans hx he
  have b6 := b6.ext he
  have h := h.ext he
  have hd := hd.ext he
  have hy := hy.ext he
  clear he
  go_wp2_with fail
  refine (rightRecords_v h).mono ?_
  rintro e3 w3 ⟨rfl, he⟩
  have hx := ext_trans hx he
  have b6 := b6.ext he
  have h := h.ext he
  have hd := hd.ext he
  have hy := hy.ext he
  clear he
  cases hrl : mRight l with
  | false =>
    go_wp2_with fail
    go_ret
    exact ⟨rfl, hx⟩
  | true =>
    have HL := Lib.hid (mRight_mem hrl)
    have hl40 : l.length ≤ 40 := by unfold mRight at hrl; simp only [Bool.and_eq_true, decide_eq_true_eq] at hrl; exact hrl.2
    clear hrl
    obtain ⟨b6_0, b6_1, b6_2, b6_3⟩ := b6.c4
    have b6_z := b6.free
    have b6_l := b6.lt
    go_wp2_with fail
    refine (mWrong_v hd).mono ?_
    rintro e4 w4 ⟨rfl, he⟩
    try clear b6_0 b6_1 b6_2 b6_3 b6_z b6_l
    have hx := ext_trans hx he
    have b6 := b6.ext he
    have h := h.ext he
    have hd := hd.ext he
    have hy := hy.ext he
    clear he
    by_cases hw : mWrong ⟨k, y, x, b⟩ = 0
    · have q1 : (mWrong ⟨k, y, x, b⟩ != 0) = false := by simpa using hw
      have HW := Lib.hid hw
      have hk123 := (mWrong_zero hw).1
      simp only at hk123
      clear hw
      by_cases hk : k = 3
      · subst hk
        obtain ⟨b6_0, b6_1, b6_2, b6_3⟩ := b6.c4
        have b6_z := b6.free
        have b6_l := b6.lt
        go_wp2_with fail
        go_ret
        exact ⟨rfl, hx⟩
      · have q2 : (k == 3) = false := by simpa using hk
        have HK3 := Lib.hid hk
        clear hk
        obtain ⟨b6_0, b6_1, b6_2, b6_3⟩ := b6.c4
        have b6_z := b6.free
        have b6_l := b6.lt
        go_wp2_with fail
        refine (mDo_d h HL.out (by omega) hx.size hd HW.out).mono ?_
        rintro e12 w12 ⟨v12, m12, q12, rfl, hm12, hq12, o12, he⟩
        try clear b6_0 b6_1 b6_2 b6_3 b6_z b6_l b6_0 b6_1 b6_2 b6_3 b6_z b6_l
        have hx := ext_trans hx he
        have b6 := b6.ext he
        have h := h.ext he
        have hd := hd.ext he
        have hy := hy.ext he
        clear he
        clear q1
        have F12 := o12.row (T := [32]) (base := w.heap.size) (by decide) (Nat.le_refl _)
        clear o12
        obtain ⟨A12, n12, c12, rfl, hc12, hcm12, HN12⟩ := F12.form
        by_cases hq : q12 = 0
        · subst hq
          obtain ⟨h6, h60, hmade⟩ := mDo_made (l := l) (d := ⟨k, y, x, b⟩) HK3.out hq12.out.symm
          rw [hmade] at hm12 F12 HN12
          have hm12 := hm12.out
          simp only at hm12 F12 HN12
          subst hm12
          have HG := Lib.hid (mGet_made l ⟨k, y, x, b⟩ HK3.out hk123 HL.out)
          have ONE := Lib.hid (fun r hr => (List.mem_append.1 hr).elim (HL.out r) (fun h1 => by
            rw [List.mem_singleton.1 h1]
            exact mMade_one HW.out (by unfold mNext; have := (mMax_bd l HL.out).1; omega) h60) : ∀ r ∈ l ++ [mMade ⟨k, y, x, b⟩ (mNext l)], rOne r = true)
          have hn12 : n12 = n + 1 := by rw [HN12.out, HN.out]; simp
          clear hmade hq12 HN12
          subst hn12
          have hn40 : n ≤ 40 := by rw [HN.out]; exact hl40
          have HK123 := Lib.hid hk123
          clear hk123 h60 h6 hl40
          go_wp2_with fail
          go_loopw [60] (fun i wr => ∃ a : Nat, a ≤ n ∧ i = .int .i64 a ∧ Ext w12 wr) (fun i _ => n - (intOf i).toNat)
          case atStart => exact ⟨0, by omega, rfl, Below.refl _ _⟩
          case round =>
            obtain ⟨a, ha, rfl, hd0⟩ := hrel
            have hx := ext_trans hx hd0
            have b6 := b6.ext hd0
            have h := h.ext hd0
            have hd := hd.ext hd0
            have F12 := F12.ext hd0
            have hy := hy.ext hd0
            by_cases hlt : a < n
            · have e0 : (0 : Int) ≤ (a : Int) := by omega
              have e1 : (a : Int) < (n : Int) := by omega
              have e2 : (a : Int) < (n : Int) + 1 := by omega
              have hal : a < l.length := HN.out ▸ hlt
              have hv := mMax_lt hal
              obtain ⟨g1, o1, u1, rfl, hg1, hu1, f1⟩ := h.rec_x hlt
              obtain ⟨g2, o2, u2, rfl, hg2, hu2, f2⟩ := F12.rec_x (i := a) (by omega)
              rw [getD_app, if_pos hal] at hu2 f2
              generalize l.getD a rZero = r at hu1 hu2 f1 f2 hv
              obtain ⟨A3, n3, c3, rfl, _, _⟩ := hu1.form
              obtain ⟨A4, n4, c4, rfl, _, _⟩ := hu2.form
              clear hal
              have hq : decide (mNext l ≤ r.ver) = false := by rw [decide_eq_false_iff_not]; omega
              obtain ⟨x0, x1, x2, x3⟩ := f1 _ (Below.refl _ _)
              go_upto_region 11 with (fail)
              generalize hwn : World.alloc wr (Obj.cells #[.int .i64 r.kind, .int .i64 r.key, .int .i64 r.ver, .slice A3 n3 c3] 32) = w8
              have he := ext_st hwn
              have b8 := box_st hwn
              clear hwn x0 x1 x2 x3
              have hx := (ext_trans hx he).drew
              have hd0 := (ext_trans hd0 he).drew
              have b8 := b8.drew
              have hu1 := (hu1.ext he).ext ((Below.refl _ _).drew : Ext w8 w8.drew)
              have hu2 := (hu2.ext he).ext ((Below.refl _ _).drew : Ext w8 w8.drew)
              have f2 := fun w' hx => f2 w' (ext_trans he hx)
              have f2 := fun w' (hx : Ext w8.drew w') => f2 w' (ext_trans ((Below.refl _ _).drew : Ext w8 w8.drew) hx)
              refine wp_region_ext 13 [0, 1, 2, 3, 4, 5, 6, 7, 8, 9, 11, 12] false rfl (by kernel_rfl) (by kernel_rfl) ?_
              generalize w8.drew = D at hx hd0 b8 hu1 hu2 f2 ⊢
              apply mixF 0 (by kernel_rfl) (by rfl) (by rfl)
              · (intro w' hx; obtain ⟨x0, x1, x2, x3⟩ := (b8.below hx b8.lt).c4; obtain ⟨y0, y1, y2, y3⟩ := f2 _ hx; go_simp <;> with_reducible rfl)
              simp only [Act.put, List.setIfInBounds_toArray, List.set_cons_zero, List.set_cons_succ]
              apply mixF 1 (by kernel_rfl) (by rfl) (by rfl)
              · (intro w' hx; obtain ⟨x0, x1, x2, x3⟩ := (b8.below hx b8.lt).c4; obtain ⟨y0, y1, y2, y3⟩ := f2 _ hx; go_simp <;> with_reducible rfl)
              simp only [Act.put, List.setIfInBounds_toArray, List.set_cons_zero, List.set_cons_succ]
              apply mixF 2 (by kernel_rfl) (by rfl) (by rfl)
              · (intro w' hx; obtain ⟨x0, x1, x2, x3⟩ := (b8.below hx b8.lt).c4; obtain ⟨y0, y1, y2, y3⟩ := f2 _ hx; go_simp <;> with_reducible rfl)
              simp only [Act.put, List.setIfInBounds_toArray, List.set_cons_zero, List.set_cons_succ]
              apply mixF 3 (by kernel_rfl) (by rfl) (by rfl)
              · (intro w' hx; obtain ⟨x0, x1, x2, x3⟩ := (b8.below hx b8.lt).c4; obtain ⟨y0, y1, y2, y3⟩ := f2 _ hx; go_simp <;> with_reducible rfl)
              simp only [Act.put, List.setIfInBounds_toArray, List.set_cons_zero, List.set_cons_succ]
              apply mixF 4 (by kernel_rfl) (by rfl) (by rfl)
              · (intro w' hx; obtain ⟨x0, x1, x2, x3⟩ := (b8.below hx b8.lt).c4; obtain ⟨y0, y1, y2, y3⟩ := f2 _ hx; go_simp <;> with_reducible rfl)
              simp only [Act.put, List.setIfInBounds_toArray, List.set_cons_zero, List.set_cons_succ]
              apply mixF 5 (by kernel_rfl) (by rfl) (by rfl)
              · (intro w' hx; obtain ⟨x0, x1, x2, x3⟩ := (b8.below hx b8.lt).c4; obtain ⟨y0, y1, y2, y3⟩ := f2 _ hx; go_simp <;> with_reducible rfl)
              simp only [Act.put, List.setIfInBounds_toArray, List.set_cons_zero, List.set_cons_succ]
              apply mixF 6 (by kernel_rfl) (by rfl) (by rfl)
              · (intro w' hx; obtain ⟨x0, x1, x2, x3⟩ := (b8.below hx b8.lt).c4; obtain ⟨y0, y1, y2, y3⟩ := f2 _ hx; go_simp <;> with_reducible rfl)
              simp only [Act.put, List.setIfInBounds_toArray, List.set_cons_zero, List.set_cons_succ]
              apply mixF 7 (by kernel_rfl) (by rfl) (by rfl)
              · (intro w' hx; obtain ⟨x0, x1, x2, x3⟩ := (b8.below hx b8.lt).c4; obtain ⟨y0, y1, y2, y3⟩ := f2 _ hx; go_simp <;> with_reducible rfl)
              simp only [Act.put, List.setIfInBounds_toArray, List.set_cons_zero, List.set_cons_succ]
              apply mixF 8 (by kernel_rfl) (by rfl) (by rfl)
              · (intro w' hx; obtain ⟨x0, x1, x2, x3⟩ := (b8.below hx b8.lt).c4; obtain ⟨y0, y1, y2, y3⟩ := f2 _ hx; go_simp <;> with_reducible rfl)
              simp only [Act.put, List.setIfInBounds_toArray, List.set_cons_zero, List.set_cons_succ]
              apply mixF 9 (by kernel_rfl) (by rfl) (by rfl)
              · (intro w' hx; obtain ⟨x0, x1, x2, x3⟩ := (b8.below hx b8.lt).c4; obtain ⟨y0, y1, y2, y3⟩ := f2 _ hx; go_simp <;> with_reducible rfl)
              simp only [Act.put, List.setIfInBounds_toArray, List.set_cons_zero, List.set_cons_succ]
              clear f2
              refine mixS 10 (by kernel_rfl) (by kernel_rfl) (by rfl) (by rfl) (fun K hK => ?_)
              go_wp2_with (go_at_call 36; refine (refSame_v (RecV.mk hu2) (RecV.mk hu1)).mono ?_; rintro e w14 ⟨rfl, he⟩)
              refine hK.out _ _ (he) ?_
              clear hK K
              try simp only [Act.put, List.setIfInBounds_toArray, List.set_cons_zero, List.set_cons_succ]
              rw [(rSame_iff ⟨r.kind, r.key, r.ver, r.data⟩ ⟨r.kind, r.key, r.ver, r.data⟩).2 rfl]
              apply mixF 11 (by kernel_rfl) (by rfl) (by rfl)
              · (intro w' hx; go_simp <;> with_reducible rfl)
              simp only [Act.put, List.setIfInBounds_toArray, List.set_cons_zero, List.set_cons_succ]
              apply mixF 12 (by kernel_rfl) (by rfl) (by rfl)
              · (intro w' hx; go_simp <;> with_reducible rfl)
              simp only [Act.put, List.setIfInBounds_toArray, List.set_cons_zero, List.set_cons_succ]
              refine mixEnd (by kernel_rfl) ?_
              go_wp2_with fail
              refine ⟨⟨a + 1, by omega, rfl, ext_trans hd0 he⟩, ?_⟩
              simp only [intOf]
              omega
            · have e9 : a = n := by omega
              subst e9
              obtain ⟨b6_0, b6_1, b6_2, b6_3⟩ := b6.c4
              have b6_z := b6.free
              have b6_l := b6.lt
              go_wp2_with fail
              refine (mGet_v (key := y) F12 ONE.out).mono ?_
              rintro e15 w15 ⟨v15, q15, rfl, hq15, hy15, he⟩
              try clear b6_0 b6_1 b6_2 b6_3 b6_z b6_l
              have hx := ext_trans hx he
              have b6 := b6.ext he
              have hy := hy.ext he
              clear he
              rw [show mGet (l ++ [mMade ⟨k, y, x, b⟩ (mNext l)]) y = if k = 1 then (b, 0) else ([], 10) from HG.out] at hq15 hy15
              have hlen : ((a : Int) + 1 == (a : Int) + 1) = true := by simp
              by_cases hk1 : k = 1
              · subst hk1
                have hq15 := hq15.out
                simp only [if_true] at hq15 hy15
                subst hq15
                obtain ⟨A5, n5, c5, rfl, hz, _⟩ := hy15.form
                have s1 := run_str hz
                have s2 := run_str hy
                have hbb : (b == b) = true := by simp
                obtain ⟨b6_0, b6_1, b6_2, b6_3⟩ := b6.c4
                have b6_z := b6.free
                have b6_l := b6.lt
                go_wp2_with fail
                go_ret
                exact ⟨rfl, hx⟩
              · have hk2 : k = 2 := by have := HK3.out; have := HK123.out; omega
                subst hk2
                have hq15 := hq15.out
                simp only [hk1, if_false] at hq15
                subst hq15
                clear hk1 hy15
                obtain ⟨b6_0, b6_1, b6_2, b6_3⟩ := b6.c4
                have b6_z := b6.free
                have b6_l := b6.lt
                go_wp2_with fail
                go_ret
                exact ⟨rfl, hx⟩
        · have q3 : (q12 != 0) = true := by simpa using hq
          obtain ⟨h1, h2, h3⟩ := made_len (l := l) (d := ⟨k, y, x, b⟩) HK3.out (by rw [← hq12.out]; exact hq)
          rw [h1] at hm12
          have hm12 := hm12.out
          rw [h2] at HN12
          obtain rfl : n12 = n := HN12.out.trans HN.out.symm
          subst hm12
          rw [← hq12.out] at h3
          clear hq12 HN12 h1 h2 F12 hq
          rcases h3 with ⟨rfl, h6⟩ | rfl
          · have h6 : 6 ≤ n12 := by rw [HN.out]; exact h6
            go_wp2_with fail
            go_ret
            exact ⟨rfl, hx⟩
          · go_wp2_with fail
            go_ret
            exact ⟨rfl, hx⟩
    · have q1 : (mWrong ⟨k, y, x, b⟩ != 0) = true := by simpa using hw
      clear hw
      go_wp2_with fail
      go_ret
      exact ⟨rfl, hx⟩
end Go.Proofs.Ytnganglmpcbcbaa

