/- The statement DiskPut: the walk of the law. -/
import Derived.Test.YtnganglmpcbcbaaAlive3
namespace Go.Proofs.Ytnganglmpcbcbaa
open Go Go.RowKit

theorem getD_snoc_le {l : List (Int × List UInt8)} {x : Int × List UInt8} {N : Nat} (h : ∀ i, (l.getD i (0, [])).2.length ≤ N) (hx : x.2.length ≤ N) (i : Nat) : ((l ++ [x]).getD i (0, [])).2.length ≤ N := by
  rw [getD_app]
  split
  · exact h i
  · rcases i - l.length with _ | j
    · exact hx
    · simp
theorem dOk_put {d : Dsk} (h : DskOk d) (h40 : d.late.length ≤ 4000) {k : Int} {l : List UInt8} (hl : l.length ≤ 4096) : DskOk ⟨d.blocks, d.late ++ [(k, l)]⟩ :=
  ⟨h.blocks, by simp only [List.length_append, List.length_cons, List.length_nil]; omega, h.block, getD_snoc_le h.write hl⟩
theorem dOk_flush {d : Dsk} (h : DskOk d) (hi : LateIn d) : DskOk (dFlush d) := by
  refine ⟨by rw [flush_length]; exact h.blocks, by simp [dFlush], fun i => ?_, fun i => by simp [dFlush]⟩
  rcases Nat.lt_or_ge i d.blocks.length with hl | hl
  · rw [dFlush_get d hi i hl]
    rcases dLast_or d.late i (d.blocks.getD i []) with e | ⟨j, _, e⟩
    · rw [e]; exact h.block i
    · rw [e]; exact h.write j
  · rw [List.getD_eq_getElem?_getD, List.getElem?_eq_none (by rw [flush_length]; exact hl)]
    simp

set_option maxRecDepth 100000 in
set_option maxHeartbeats 4000000 in
theorem diskPut_law (w : World) {v u : Value} {d : Dsk} {l : List UInt8} {k o : Int} (h : DskV tD w w.heap.size v d) (hu : ByT w w.heap.size u l) :
    Calls Try.prog 9 #[v, .int .i64 k, u, .int .i64 o] w fun e w' => e = .returned (.bool true) ∧ Ext w w' := by
  obtain ⟨A, n, c, E, m, e, rfl⟩ := h.parts
  obtain ⟨F, n2, c2, rfl, hF, HN2⟩ := hu.form
  go_enter Try.func9, Try.ntmps9
  go_wp2_with fail
  obtain ⟨W, hW⟩ : ∃ W, W = w.alloc (.cells #[.slice A n c, .slice E m e] 46) := ⟨_, rfl⟩
  rw [← hW]
  have b4 : Box W w.heap.size 46 #[.slice A n c, .slice E m e] := by rw [hW]; exact Box.new w _ _ rfl
  have hwW : Ext w W := by rw [hW]; exact ext_alloc _ _
  clear hW
  refine (alive3_w _).mono ?_
  rintro e1 w1 ⟨rfl, he1⟩
  have hx := ext_trans hwW he1
  have b4 := b4.ext he1
  clear he1
  obtain ⟨x0, x1⟩ := b4.cells2
  go_wp2_with fail
  refine (rightDisk_v (h.ext hx)).mono ?_
  rintro e4 w4 ⟨rfl, he4⟩
  have hx := ext_trans hx he4
  have b4 := b4.ext he4
  clear x0 x1 he4
  cases hr : dRight d with
  | false =>
    go_wp2
    go_ret
    exact ⟨rfl, hx⟩
  | true =>
    have HR := Lib.hid (dRight_ok hr)
    have H40 : d.late.length ≤ 4000 := by have := (dRight_even hr).2.1; omega
    clear hr
    obtain ⟨x0, x1⟩ := b4.cells2
    go_wp2_with fail
    refine (dskPut_v (h.ext hx) HR.out.1 (hu.kept (T := []) (.ext hx))).mono ?_
    rintro e5 w5 ⟨v5, q5, rfl, hq5, o5, he5⟩
    have d5 := o5.v
    obtain ⟨A5, n5, c5, E5, m5, e5, rfl⟩ := d5.parts
    have Hq5 := Lib.hid hq5
    have hx := ext_trans hx he5
    have b4 := b4.ext he5
    clear hq5 x0 x1 he5 o5
    go_upto_region 6 with (fail)
    generalize hwn : World.alloc _ (Obj.cells #[.slice A5 n5 c5, .slice E5 m5 e5] 46) = w6
    have he6 := alloc_step hwn
    have b9 := box_step hwn
    clear hwn
    generalize w5.heap.size = g9 at b9 ⊢
    have hx := ext_trans hx he6
    have b4 := b4.ext he6
    have d5 := d5.ext he6
    clear he6
    by_cases hq : q5 = 0
    · subst hq
      obtain ⟨h0, h1, h16, hput⟩ := dPut_get d k l Hq5.out.symm
      rw [hput] at d5
      simp only at d5
      have HX := Lib.hid (dOk_put HR.out.1 H40 (k := k) (show l.length ≤ 4096 by omega))
      have HI := Lib.hid (LateIn.put (b := l) HR.out.2 h0 h1)
      obtain ⟨x, hxd⟩ : ∃ x : Dsk, x = ⟨d.blocks, d.late ++ [(k, l)]⟩ := ⟨_, rfl⟩
      have HG := Lib.hid (dGet_put d k l h0 h1)
      rw [← hxd] at d5 HX HI HG
      have HFl := Lib.hid (dOk_flush HX.out HI.out)
      clear hput h16 hxd H40 h0 h1
      obtain ⟨y0, y1⟩ := b9.cells2
      go_wp2_with fail
      refine (dskFlush_v d5 HX.out HI.out).mono ?_
      rintro e6 w7 ⟨v7, rfl, o7, he⟩
      have d7 := o7.v
      obtain ⟨A7, n7, c7, E7, m7, e7, rfl⟩ := d7.parts
      have em7 := d7.late1
      rw [show (dFlush x).late.length = 0 from rfl] at em7
      subst em7
      have hx := ext_trans hx he
      have b4 := b4.ext he
      have b9 := b9.ext he
      have d5 := d5.ext he
      clear he o7 y0 y1
      go_upto_region 9 with (fail)
      generalize hwn : World.alloc _ (Obj.cells #[.slice A7 n7 c7, .slice E7 0 e7] 46) = w8
      have he := alloc_step hwn
      have b11 := box_step hwn
      clear hwn
      generalize w7.heap.size = g11 at b11 ⊢
      have hx := ext_trans hx he
      have b4 := b4.ext he
      have b9 := b9.ext he
      have d5 := d5.ext he
      have d7 := d7.ext he
      clear he
      obtain ⟨y0, y1⟩ := b9.cells2
      go_wp2_with fail
      refine (dskGet_v (k := k) d5 HX.out).mono ?_
      rintro e9 w9 ⟨v12, q12, rfl, hq12, hy12, he⟩
      rw [HG.out, if_pos rfl] at hq12 hy12
      simp only at hq12 hy12
      subst hq12
      obtain ⟨A12, n12, c12, rfl, hb12, _⟩ := hy12.form
      have hx := ext_trans hx he
      have b4 := b4.ext he
      have b9 := b9.ext he
      have b11 := b11.ext he
      have d5 := d5.ext he
      have d7 := d7.ext he
      clear he y0 y1 hy12
      obtain ⟨y0, y1⟩ := b11.cells2
      go_wp2_with fail
      refine (dskGet_v (k := k) d7 HFl.out).mono ?_
      rintro e10 w10 ⟨v14, q14, rfl, hq14, hy14, he⟩
      rw [dGet_flush x HI.out, HG.out, if_pos rfl] at hq14 hy14
      simp only at hq14 hy14
      subst hq14
      obtain ⟨A14, n14, c14, rfl, hb14, _⟩ := hy14.form
      have hb12 := (Sl.below hb12 he).more he.size
      have hx := ext_trans hx he
      have b4 := b4.ext he
      have b9 := b9.ext he
      have b11 := b11.ext he
      have d5 := d5.ext he
      have d7 := d7.ext he
      clear he y0 y1 hy14
      obtain ⟨y0, y1⟩ := b11.cells2
      have s1 := run_str hb12
      have s2 := run_str hb14
      have s3 := run_str (Sl.below hF hx)
      have hll : (l == l) = true := by simp
      have hln : (l != l) = false := by simp
      by_cases hok : o = k
      · have qo : (o == k) = true := by simpa using hok
        clear hok
        go_wp2
        go_ret
        exact ⟨rfl, hx⟩
      · have qo : (o == k) = false := by simpa using hok
        have HG2 := Lib.hid ((HG.out o).trans (if_neg hok))
        clear hok
        obtain ⟨x0, x1⟩ := b4.cells2
        go_wp2_with fail
        refine (dskGet_v (k := o) (h.ext hx) HR.out.1).mono ?_
        rintro e11 w11 ⟨v16, q16, rfl, hq16, hy16, he⟩
        obtain ⟨A16, n16, c16, rfl, hb16, _⟩ := hy16.form
        have Hq16 := Lib.hid hq16
        have hx := ext_trans hx he
        have b9 := b9.ext he
        have b11 := b11.ext he
        have d5 := d5.ext he
        have d7 := d7.ext he
        clear he x0 x1 y0 y1 hy16 s1 s2 s3 hq16
        obtain ⟨y0, y1⟩ := b9.cells2
        go_wp2_with fail
        refine (dskGet_v (k := o) d5 HX.out).mono ?_
        rintro e12 w12 ⟨v18, q18, rfl, hq18, hy18, he⟩
        rw [HG2.out] at hq18 hy18
        have e18 : q18 = q16 := hq18.trans Hq16.out.symm
        subst e18
        obtain ⟨A18, n18, c18, rfl, hb18, _⟩ := hy18.form
        have hb16 := (Sl.below hb16 he).more he.size
        have hx := ext_trans hx he
        have b11 := b11.ext he
        have d7 := d7.ext he
        clear he y0 y1 hy18 hq18
        obtain ⟨y0, y1⟩ := b11.cells2
        go_wp2_with fail
        refine (dskGet_v (k := o) d7 HFl.out).mono ?_
        rintro e13 w13 ⟨v20, q20, rfl, hq20, hy20, he⟩
        rw [dGet_flush x HI.out, HG2.out] at hq20 hy20
        have e20 : q20 = q18 := hq20.trans Hq16.out.symm
        subst e20
        obtain ⟨A20, n20, c20, rfl, hb20, _⟩ := hy20.form
        have hb16 := (Sl.below hb16 he).more he.size
        have hb18 := (Sl.below hb18 he).more he.size
        have hx := ext_trans hx he
        clear he y0 y1 hy20 hq20
        have s1 := run_str hb16
        have s2 := run_str hb18
        have s3 := run_str hb20
        generalize (dGet d o).1 = z at s1 s2 s3
        have hzz : (z == z) = true := by simp
        have hqq : (q20 == q20) = true := by simp
        go_wp2
        go_ret
        exact ⟨rfl, hx⟩
    · have qn : (q5 != 0) = true := by simpa using hq
      have hput := dPut_err d k l (by rw [← Hq5.out]; exact hq)
      rw [hput] at d5
      obtain ⟨x0, x1⟩ := b4.cells2
      obtain ⟨y0, y1⟩ := b9.cells2
      clear hq hput
      go_wp2_with fail
      refine (sameDisk_v d5 (h.ext hx)).mono ?_
      rintro e6 w7 ⟨rfl, he⟩
      rw [(dSame_iff d d).2 rfl]
      go_wp2
      go_ret
      exact ⟨rfl, ext_trans hx he⟩

end Go.Proofs.Ytnganglmpcbcbaa
