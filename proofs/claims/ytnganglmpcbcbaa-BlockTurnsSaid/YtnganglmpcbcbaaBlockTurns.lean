/- BlockTurns: the law's own walk. -/
import Derived.Test.YtnganglmpcbcbaaAlive2
import Derived.Test.YtnganglmpcbcbaaMix
namespace Go.Proofs.Ytnganglmpcbcbaa
open Go Go.RowKit

set_option maxRecDepth 100000 in
set_option maxHeartbeats 4000000 in
theorem blockTurns_law (w : World) {A A' : Option Addr} {n c n' c' : Nat} {r : Rec} {l : List UInt8} {k m : Int} (h : By w w.heap.size A n c r.data) (_ : n + 4096 ≤ blim) (hb : By w w.heap.size A' n' c' l) (_ : n' + 4096 ≤ blim)
    (_ : -9223372036854775808 ≤ k ∧ k ≤ 9223372036854775807) (_ : -9223372036854775808 ≤ m ∧ m ≤ 9223372036854775807) :
    Calls Try.prog 6 #[.agg #[.int .i64 r.kind, .int .i64 r.key, .int .i64 r.ver, .slice A n c], .slice A' n' c', .int .i64 k, .int .i64 m] w fun e w' => e = .returned (.bool true) ∧ Ext w w' := by
  have Hl := Lib.hid h.len
  go_enter Try.func6, Try.ntmps6
  go_wp2_with fail
  refine (alive2_w _).mono ?_
  rintro e w1 ⟨rfl, he1⟩
  have bx : Box w1 w.heap.size 32 #[.int .i64 r.kind, .int .i64 r.key, .int .i64 r.ver, .slice A n c] := (Box.new w _ _ rfl).ext he1
  have hd : Ext w w1 := ext_trans (ext_alloc _ _) he1
  obtain ⟨m0, m1, m2, m3⟩ := bx.cells4
  clear he1
  by_cases k0 : k < 0
  · have q1 : decide (k < 0) = true := by simpa using k0
    go_wp2
    go_ret
    exact ⟨rfl, hd⟩
  have q1 : decide (k < 0) = false := by simpa using k0
  by_cases k1 : 255 < k
  · have q2 : decide (255 < k) = true := by simpa using k1
    go_wp2
    go_ret
    exact ⟨rfl, hd⟩
  have q2 : decide (255 < k) = false := by simpa using k1
  have h1 := Sl.below h hd
  go_wp2_with fail
  refine (wrong_w (r := r) _ h1).mono ?_
  rintro e w2 ⟨rfl, he2⟩
  obtain ⟨x, hx⟩ : ∃ x, rWrong r = x := ⟨_, rfl⟩
  rw [hx]
  have hd := ext_trans hd he2
  by_cases x0 : x = 0
  · subst x0
    obtain ⟨hl8, _, _, hv0, hv1⟩ := rWrong_zero' hx
    have hn8 : n ≤ 8 := by have := Hl.out; omega
    have ht1 := Lib.hid (turn1 hx (by omega : 0 ≤ k) (by omega))
    have ht2 : Hid (m ≠ k → rRead (rBytes r k) m = (rZero, 8)) := fun hm => turn2 hx (by omega) (by omega) hm
    have hsm := Lib.hid ((rSame_iff r r).2 rfl)
    clear hx
    have bx := bx.ext he2
    obtain ⟨m0, m1, m2, m3⟩ := bx.cells4
    have h2 := Sl.below h hd
    have hz2 := hd.size
    go_wp2_with fail
    refine (bytes_w (r := r) (k := k) _ h2 (by omega) hn8 hv0 (by omega)).mono ?_
    rintro e w3 ⟨v, rfl, own3, he3⟩
    obtain ⟨A3, c3, rfl, hs3⟩ := own_shape own3
    have hd := ext_trans hd he3
    have bx := bx.ext he3
    go_wp2_with fail
    refine (read_w (l := rBytes r k) (k := k) _ hs3 (Nat.le_refl _)).mono ?_
    rintro e w4 ⟨v4, q, rfl, hq, hv4, he4⟩
    rw [ht1.out] at hq hv4
    obtain ⟨A4, c4, rfl, own4⟩ := hv4
    subst hq
    have hd := ext_trans hd he4
    have bx := bx.ext he4
    obtain ⟨m0, m1, m2, m3⟩ := bx.cells4
    have hlt4 := bx.lt
    go_wp2_with fail
    obtain ⟨X, hX⟩ : ∃ X, X = w4.alloc (.cells #[.int .i64 r.kind, .int .i64 r.key, .int .i64 r.ver, .slice A4 r.data.length c4] 32) := ⟨_, rfl⟩
    rw [← hX]
    have heX : Ext w4 X := by rw [hX]; exact ext_alloc _ _
    clear hX
    have hd := ext_trans hd heX
    have own4 := own_ext own4 heX
    have hX2 := Sl.below h hd
    have hzX := hd.size
    refine (same_w (r := r) (s := r) _ (Sl.of_own own4) hX2 (Nat.le_refl _) hzX).mono ?_
    rintro e w5 ⟨rfl, he5⟩
    rw [hsm.out]
    have hd := ext_trans hd he5
    have bx := (bx.ext heX).ext he5
    obtain ⟨m0, m1, m2, m3⟩ := bx.cells4
    have h5 := Sl.below h hd
    have hz5 := hd.size
    go_wp2_with fail
    refine (bytes_w (r := r) (k := k) _ h5 (by omega) hn8 hv0 (by omega)).mono ?_
    rintro e w6 ⟨v6, rfl, own6, he6⟩
    obtain ⟨A6, c6, rfl, hs6⟩ := own_shape own6
    have hd := ext_trans hd he6
    go_wp2_with fail
    refine (read_w (l := rBytes r k) (k := m) _ hs6 (Nat.le_refl _)).mono ?_
    rintro e w8 ⟨v8, q8, rfl, hq8, ⟨A8, c8, rfl, own8⟩, he8⟩
    have hd := ext_trans hd he8
    obtain ⟨G8, hG8⟩ : ∃ G, (rRead (rBytes r k) m).1 = G := ⟨_, rfl⟩
    rw [hG8] at own8
    simp only [hG8]
    clear hG8 m0 m1 m2 m3
    by_cases hm : m = k
    · have q9 : (m != k) = false := by simpa using hm
      clear hq8 hm
      go_wp2_with fail
      obtain ⟨X8, hX8⟩ : ∃ X, X = w8.alloc (.cells #[.int .i64 G8.kind, .int .i64 G8.key, .int .i64 G8.ver, .slice A8 G8.data.length c8] 32) := ⟨_, rfl⟩
      rw [← hX8]
      have heX8 : Ext w8 X8 := by rw [hX8]; exact ext_alloc _ _
      clear hX8
      have hd := ext_trans hd heX8
      have h2b := Sl.below hb hd
      have hzb := hd.size
      go_wp2_with fail
      refine (read_w (k := k) _ h2b hzb).mono ?_
      rintro e w7 ⟨v7, q7, rfl, hq7, ⟨A7, c7, rfl, own7⟩, he7⟩
      have hd := ext_trans hd he7
      have ht3 := Lib.hid (turn3 (b := l) (k := k))
      obtain ⟨G, hG⟩ : ∃ G, (rRead l k).1 = G := ⟨_, rfl⟩
      rw [hG] at own7
      simp only [hG]
      rw [← hq7, hG] at ht3
      clear hq7 hG
      go_wp2_with fail
      obtain ⟨Z, hZ⟩ : ∃ Z, Z = w7.alloc (.cells #[.int .i64 G.kind, .int .i64 G.key, .int .i64 G.ver, .slice A7 G.data.length c7] 32) := ⟨_, rfl⟩
      rw [← hZ]
      have bZ : Box Z w7.heap.size 32 #[.int .i64 G.kind, .int .i64 G.key, .int .i64 G.ver, .slice A7 G.data.length c7] := by rw [hZ]; exact Box.new _ _ _ rfl
      have heZ : Ext w7 Z := by rw [hZ]; exact ext_alloc _ _
      clear hZ
      have hd := ext_trans hd heZ
      have own7 := own_ext own7 heZ
      by_cases hq : q7 = 0
      · subst hq
        obtain ⟨hw, hby⟩ := ht3.out rfl
        obtain ⟨g8, _, _, g0, g1⟩ := rWrong_zero' hw
        have g1 : G.ver < 65536 := by omega
        have Hw := Lib.hid hw
        have Hby := Lib.hid hby
        have hsG := Sl.of_own own7
        clear hw hby ht3
        refine wp_region_ext 17 [0, 1, 2, 3, 5, 6, 7, 8, 10, 11, 12, 13, 14, 15, 16] false rfl (by kernel_rfl) (by kernel_rfl) ?_
        have hr : Below Z.heap.size Z Z.drew := (Below.refl _ _).drew
        apply mixF 0 (by kernel_rfl) (by rfl) (by rfl)
        · (intro w' hx; go_simp <;> with_reducible rfl)
        simp only [Act.put, List.setIfInBounds_toArray, List.set_cons_zero, List.set_cons_succ]
        apply mixF 1 (by kernel_rfl) (by rfl) (by rfl)
        · (intro w' hx; go_simp <;> with_reducible rfl)
        simp only [Act.put, List.setIfInBounds_toArray, List.set_cons_zero, List.set_cons_succ]
        apply mixF 2 (by kernel_rfl) (by rfl) (by rfl)
        · (intro w' hx; go_simp <;> with_reducible rfl)
        simp only [Act.put, List.setIfInBounds_toArray, List.set_cons_zero, List.set_cons_succ]
        apply mixF 3 (by kernel_rfl) (by rfl) (by rfl)
        · (intro w' hx; obtain ⟨t0, t1, t2, t3⟩ := (bZ.ext (ext_trans hr hx)).cells4; go_simp <;> with_reducible rfl)
        simp only [Act.put, List.setIfInBounds_toArray, List.set_cons_zero, List.set_cons_succ]
        refine mixS 4 (by kernel_rfl) (by kernel_rfl) (by rfl) (by rfl) (fun K hK => ?_)
        go_wp2_with (go_at_call 37; refine (wrong_w (r := G) _ (Sl.below hsG hr)).mono ?_; rintro e w1 ⟨rfl, he3⟩; rw [Hw.out])
        refine hK.out _ _ (he3) ?_
        clear hK K
        try simp only [Act.put, List.setIfInBounds_toArray, List.set_cons_zero, List.set_cons_succ]
        have hr := ext_trans hr he3
        apply mixF 5 (by kernel_rfl) (by rfl) (by rfl)
        · (intro w' hx; go_simp <;> with_reducible rfl)
        simp only [Act.put, List.setIfInBounds_toArray, List.set_cons_zero, List.set_cons_succ]
        apply mixF 6 (by kernel_rfl) (by rfl) (by rfl)
        · (intro w' hx; go_simp <;> with_reducible rfl)
        simp only [Act.put, List.setIfInBounds_toArray, List.set_cons_zero, List.set_cons_succ]
        apply mixF 7 (by kernel_rfl) (by rfl) (by rfl)
        · (intro w' hx; obtain ⟨t0, t1, t2, t3⟩ := (bZ.ext (ext_trans hr hx)).cells4; go_simp <;> with_reducible rfl)
        simp only [Act.put, List.setIfInBounds_toArray, List.set_cons_zero, List.set_cons_succ]
        apply mixF 8 (by kernel_rfl) (by rfl) (by rfl)
        · (intro w' hx; go_simp <;> with_reducible rfl)
        simp only [Act.put, List.setIfInBounds_toArray, List.set_cons_zero, List.set_cons_succ]
        apply mixF 11 (by kernel_rfl) (by rfl) (by rfl)
        · (intro w' hx; go_simp <;> with_reducible rfl)
        simp only [Act.put, List.setIfInBounds_toArray, List.set_cons_zero, List.set_cons_succ]
        apply mixF 12 (by kernel_rfl) (by rfl) (by rfl)
        · (intro w' hx; have q := run_str (Sl.below hb ((hd.trans (hr.mono hd.size)).trans (hx.mono (by have := hr.size; have := hd.size; omega)))); go_simp <;> with_reducible rfl)
        simp only [Act.put, List.setIfInBounds_toArray, List.set_cons_zero, List.set_cons_succ]
        refine mixS 9 (by kernel_rfl) (by kernel_rfl) (by rfl) (by rfl) (fun K hK => ?_)
        go_wp2_with (go_at_call 40; refine (bytes_w (r := G) (k := k) _ (Sl.below hsG hr) hr.size g8 g0 g1).mono ?_; rintro e w1 ⟨v9, rfl, own9, he9⟩; obtain ⟨A9, c9, rfl, hs9⟩ := own_shape own9)
        refine hK.out _ _ (he9) ?_
        clear hK K
        try simp only [Act.put, List.setIfInBounds_toArray, List.set_cons_zero, List.set_cons_succ]
        rw [Hby.out] at hs9
        have hr := ext_trans hr he9
        apply mixF 10 (by kernel_rfl) (by rfl) (by rfl)
        · (intro w' hx; have q := run_str (Sl.below hs9 hx); go_simp <;> with_reducible rfl)
        simp only [Act.put, List.setIfInBounds_toArray, List.set_cons_zero, List.set_cons_succ]
        apply mixF 13 (by kernel_rfl) (by rfl) (by rfl)
        · (intro w' hx; go_simp <;> with_reducible rfl)
        simp only [Act.put, List.setIfInBounds_toArray, List.set_cons_zero, List.set_cons_succ]
        apply mixF 14 (by kernel_rfl) (by rfl) (by rfl)
        · (intro w' hx; go_simp <;> with_reducible rfl)
        simp only [Act.put, List.setIfInBounds_toArray, List.set_cons_zero, List.set_cons_succ]
        apply mixF 15 (by kernel_rfl) (by rfl) (by rfl)
        · (intro w' hx; go_simp <;> with_reducible rfl)
        simp only [Act.put, List.setIfInBounds_toArray, List.set_cons_zero, List.set_cons_succ]
        apply mixF 16 (by kernel_rfl) (by rfl) (by rfl)
        · (intro w' hx; go_simp <;> with_reducible rfl)
        simp only [Act.put, List.setIfInBounds_toArray, List.set_cons_zero, List.set_cons_succ]
        refine mixEnd (by kernel_rfl) ?_
        go_wp2
        go_ret
        exact ⟨rfl, hd.trans (hr.mono hd.size)⟩
      · have qn : (q7 != 0) = true := by simpa using hq
        refine wp_region_ext 17 [0, 1, 2, 3, 4, 5, 6, 7, 8, 9, 10, 11, 12, 13, 14, 15, 16] false rfl (by kernel_rfl) (by kernel_rfl) ?_
        have hr : Below Z.heap.size Z Z.drew := (Below.refl _ _).drew
        apply mixF 0 (by kernel_rfl) (by rfl) (by rfl)
        · (intro w' hx; go_simp <;> with_reducible rfl)
        simp only [Act.put, List.setIfInBounds_toArray, List.set_cons_zero, List.set_cons_succ]
        apply mixF 1 (by kernel_rfl) (by rfl) (by rfl)
        · (intro w' hx; go_simp <;> with_reducible rfl)
        simp only [Act.put, List.setIfInBounds_toArray, List.set_cons_zero, List.set_cons_succ]
        apply mixF 2 (by kernel_rfl) (by rfl) (by rfl)
        · (intro w' hx; go_simp <;> with_reducible rfl)
        simp only [Act.put, List.setIfInBounds_toArray, List.set_cons_zero, List.set_cons_succ]
        refine mixFskip 3 (by kernel_rfl) (by rfl) (by rfl) ?_
        simp only [Act.put, List.setIfInBounds_toArray, List.set_cons_zero, List.set_cons_succ]
        refine mixFskip 4 (by kernel_rfl) (by rfl) (by rfl) ?_
        simp only [Act.put, List.setIfInBounds_toArray, List.set_cons_zero, List.set_cons_succ]
        refine mixFskip 5 (by kernel_rfl) (by rfl) (by rfl) ?_
        simp only [Act.put, List.setIfInBounds_toArray, List.set_cons_zero, List.set_cons_succ]
        refine mixFskip 6 (by kernel_rfl) (by rfl) (by rfl) ?_
        simp only [Act.put, List.setIfInBounds_toArray, List.set_cons_zero, List.set_cons_succ]
        refine mixFskip 7 (by kernel_rfl) (by rfl) (by rfl) ?_
        simp only [Act.put, List.setIfInBounds_toArray, List.set_cons_zero, List.set_cons_succ]
        refine mixFskip 8 (by kernel_rfl) (by rfl) (by rfl) ?_
        simp only [Act.put, List.setIfInBounds_toArray, List.set_cons_zero, List.set_cons_succ]
        refine mixFskip 9 (by kernel_rfl) (by rfl) (by rfl) ?_
        simp only [Act.put, List.setIfInBounds_toArray, List.set_cons_zero, List.set_cons_succ]
        refine mixFskip 10 (by kernel_rfl) (by rfl) (by rfl) ?_
        simp only [Act.put, List.setIfInBounds_toArray, List.set_cons_zero, List.set_cons_succ]
        refine mixFskip 11 (by kernel_rfl) (by rfl) (by rfl) ?_
        simp only [Act.put, List.setIfInBounds_toArray, List.set_cons_zero, List.set_cons_succ]
        refine mixFskip 12 (by kernel_rfl) (by rfl) (by rfl) ?_
        simp only [Act.put, List.setIfInBounds_toArray, List.set_cons_zero, List.set_cons_succ]
        refine mixFskip 13 (by kernel_rfl) (by rfl) (by rfl) ?_
        simp only [Act.put, List.setIfInBounds_toArray, List.set_cons_zero, List.set_cons_succ]
        refine mixFskip 14 (by kernel_rfl) (by rfl) (by rfl) ?_
        simp only [Act.put, List.setIfInBounds_toArray, List.set_cons_zero, List.set_cons_succ]
        apply mixF 15 (by kernel_rfl) (by rfl) (by rfl)
        · (intro w' hx; go_simp <;> with_reducible rfl)
        simp only [Act.put, List.setIfInBounds_toArray, List.set_cons_zero, List.set_cons_succ]
        apply mixF 16 (by kernel_rfl) (by rfl) (by rfl)
        · (intro w' hx; go_simp <;> with_reducible rfl)
        simp only [Act.put, List.setIfInBounds_toArray, List.set_cons_zero, List.set_cons_succ]
        refine mixEnd (by kernel_rfl) ?_
        go_wp2
        go_ret
        exact ⟨rfl, hd.trans (hr.mono hd.size)⟩
    · have q9 : (m != k) = true := by simpa using hm
      have e8 : q8 = 8 := by rw [hq8, ht2.out hm]
      clear hq8
      subst e8
      go_wp2_with fail
      obtain ⟨X8, hX8⟩ : ∃ X, X = w8.alloc (.cells #[.int .i64 G8.kind, .int .i64 G8.key, .int .i64 G8.ver, .slice A8 G8.data.length c8] 32) := ⟨_, rfl⟩
      rw [← hX8]
      have heX8 : Ext w8 X8 := by rw [hX8]; exact ext_alloc _ _
      clear hX8
      have hd := ext_trans hd heX8
      have h2b := Sl.below hb hd
      have hzb := hd.size
      go_wp2_with fail
      refine (read_w (k := k) _ h2b hzb).mono ?_
      rintro e w7 ⟨v7, q7, rfl, hq7, ⟨A7, c7, rfl, own7⟩, he7⟩
      have hd := ext_trans hd he7
      have ht3 := Lib.hid (turn3 (b := l) (k := k))
      obtain ⟨G, hG⟩ : ∃ G, (rRead l k).1 = G := ⟨_, rfl⟩
      rw [hG] at own7
      simp only [hG]
      rw [← hq7, hG] at ht3
      clear hq7 hG
      go_wp2_with fail
      obtain ⟨Z, hZ⟩ : ∃ Z, Z = w7.alloc (.cells #[.int .i64 G.kind, .int .i64 G.key, .int .i64 G.ver, .slice A7 G.data.length c7] 32) := ⟨_, rfl⟩
      rw [← hZ]
      have bZ : Box Z w7.heap.size 32 #[.int .i64 G.kind, .int .i64 G.key, .int .i64 G.ver, .slice A7 G.data.length c7] := by rw [hZ]; exact Box.new _ _ _ rfl
      have heZ : Ext w7 Z := by rw [hZ]; exact ext_alloc _ _
      clear hZ
      have hd := ext_trans hd heZ
      have own7 := own_ext own7 heZ
      by_cases hq : q7 = 0
      · subst hq
        obtain ⟨hw, hby⟩ := ht3.out rfl
        obtain ⟨g8, _, _, g0, g1⟩ := rWrong_zero' hw
        have g1 : G.ver < 65536 := by omega
        have Hw := Lib.hid hw
        have Hby := Lib.hid hby
        have hsG := Sl.of_own own7
        clear hw hby ht3
        refine wp_region_ext 17 [0, 1, 2, 3, 5, 6, 7, 8, 10, 11, 12, 13, 14, 15, 16] false rfl (by kernel_rfl) (by kernel_rfl) ?_
        have hr : Below Z.heap.size Z Z.drew := (Below.refl _ _).drew
        apply mixF 0 (by kernel_rfl) (by rfl) (by rfl)
        · (intro w' hx; go_simp <;> with_reducible rfl)
        simp only [Act.put, List.setIfInBounds_toArray, List.set_cons_zero, List.set_cons_succ]
        apply mixF 1 (by kernel_rfl) (by rfl) (by rfl)
        · (intro w' hx; go_simp <;> with_reducible rfl)
        simp only [Act.put, List.setIfInBounds_toArray, List.set_cons_zero, List.set_cons_succ]
        apply mixF 2 (by kernel_rfl) (by rfl) (by rfl)
        · (intro w' hx; go_simp <;> with_reducible rfl)
        simp only [Act.put, List.setIfInBounds_toArray, List.set_cons_zero, List.set_cons_succ]
        apply mixF 3 (by kernel_rfl) (by rfl) (by rfl)
        · (intro w' hx; obtain ⟨t0, t1, t2, t3⟩ := (bZ.ext (ext_trans hr hx)).cells4; go_simp <;> with_reducible rfl)
        simp only [Act.put, List.setIfInBounds_toArray, List.set_cons_zero, List.set_cons_succ]
        refine mixS 4 (by kernel_rfl) (by kernel_rfl) (by rfl) (by rfl) (fun K hK => ?_)
        go_wp2_with (go_at_call 37; refine (wrong_w (r := G) _ (Sl.below hsG hr)).mono ?_; rintro e w1 ⟨rfl, he3⟩; rw [Hw.out])
        refine hK.out _ _ (he3) ?_
        clear hK K
        try simp only [Act.put, List.setIfInBounds_toArray, List.set_cons_zero, List.set_cons_succ]
        have hr := ext_trans hr he3
        apply mixF 5 (by kernel_rfl) (by rfl) (by rfl)
        · (intro w' hx; go_simp <;> with_reducible rfl)
        simp only [Act.put, List.setIfInBounds_toArray, List.set_cons_zero, List.set_cons_succ]
        apply mixF 6 (by kernel_rfl) (by rfl) (by rfl)
        · (intro w' hx; go_simp <;> with_reducible rfl)
        simp only [Act.put, List.setIfInBounds_toArray, List.set_cons_zero, List.set_cons_succ]
        apply mixF 7 (by kernel_rfl) (by rfl) (by rfl)
        · (intro w' hx; obtain ⟨t0, t1, t2, t3⟩ := (bZ.ext (ext_trans hr hx)).cells4; go_simp <;> with_reducible rfl)
        simp only [Act.put, List.setIfInBounds_toArray, List.set_cons_zero, List.set_cons_succ]
        apply mixF 8 (by kernel_rfl) (by rfl) (by rfl)
        · (intro w' hx; go_simp <;> with_reducible rfl)
        simp only [Act.put, List.setIfInBounds_toArray, List.set_cons_zero, List.set_cons_succ]
        apply mixF 11 (by kernel_rfl) (by rfl) (by rfl)
        · (intro w' hx; go_simp <;> with_reducible rfl)
        simp only [Act.put, List.setIfInBounds_toArray, List.set_cons_zero, List.set_cons_succ]
        apply mixF 12 (by kernel_rfl) (by rfl) (by rfl)
        · (intro w' hx; have q := run_str (Sl.below hb ((hd.trans (hr.mono hd.size)).trans (hx.mono (by have := hr.size; have := hd.size; omega)))); go_simp <;> with_reducible rfl)
        simp only [Act.put, List.setIfInBounds_toArray, List.set_cons_zero, List.set_cons_succ]
        refine mixS 9 (by kernel_rfl) (by kernel_rfl) (by rfl) (by rfl) (fun K hK => ?_)
        go_wp2_with (go_at_call 40; refine (bytes_w (r := G) (k := k) _ (Sl.below hsG hr) hr.size g8 g0 g1).mono ?_; rintro e w1 ⟨v9, rfl, own9, he9⟩; obtain ⟨A9, c9, rfl, hs9⟩ := own_shape own9)
        refine hK.out _ _ (he9) ?_
        clear hK K
        try simp only [Act.put, List.setIfInBounds_toArray, List.set_cons_zero, List.set_cons_succ]
        rw [Hby.out] at hs9
        have hr := ext_trans hr he9
        apply mixF 10 (by kernel_rfl) (by rfl) (by rfl)
        · (intro w' hx; have q := run_str (Sl.below hs9 hx); go_simp <;> with_reducible rfl)
        simp only [Act.put, List.setIfInBounds_toArray, List.set_cons_zero, List.set_cons_succ]
        apply mixF 13 (by kernel_rfl) (by rfl) (by rfl)
        · (intro w' hx; go_simp <;> with_reducible rfl)
        simp only [Act.put, List.setIfInBounds_toArray, List.set_cons_zero, List.set_cons_succ]
        apply mixF 14 (by kernel_rfl) (by rfl) (by rfl)
        · (intro w' hx; go_simp <;> with_reducible rfl)
        simp only [Act.put, List.setIfInBounds_toArray, List.set_cons_zero, List.set_cons_succ]
        apply mixF 15 (by kernel_rfl) (by rfl) (by rfl)
        · (intro w' hx; go_simp <;> with_reducible rfl)
        simp only [Act.put, List.setIfInBounds_toArray, List.set_cons_zero, List.set_cons_succ]
        apply mixF 16 (by kernel_rfl) (by rfl) (by rfl)
        · (intro w' hx; go_simp <;> with_reducible rfl)
        simp only [Act.put, List.setIfInBounds_toArray, List.set_cons_zero, List.set_cons_succ]
        refine mixEnd (by kernel_rfl) ?_
        go_wp2
        go_ret
        exact ⟨rfl, hd.trans (hr.mono hd.size)⟩
      · have qn : (q7 != 0) = true := by simpa using hq
        refine wp_region_ext 17 [0, 1, 2, 3, 4, 5, 6, 7, 8, 9, 10, 11, 12, 13, 14, 15, 16] false rfl (by kernel_rfl) (by kernel_rfl) ?_
        have hr : Below Z.heap.size Z Z.drew := (Below.refl _ _).drew
        apply mixF 0 (by kernel_rfl) (by rfl) (by rfl)
        · (intro w' hx; go_simp <;> with_reducible rfl)
        simp only [Act.put, List.setIfInBounds_toArray, List.set_cons_zero, List.set_cons_succ]
        apply mixF 1 (by kernel_rfl) (by rfl) (by rfl)
        · (intro w' hx; go_simp <;> with_reducible rfl)
        simp only [Act.put, List.setIfInBounds_toArray, List.set_cons_zero, List.set_cons_succ]
        apply mixF 2 (by kernel_rfl) (by rfl) (by rfl)
        · (intro w' hx; go_simp <;> with_reducible rfl)
        simp only [Act.put, List.setIfInBounds_toArray, List.set_cons_zero, List.set_cons_succ]
        refine mixFskip 3 (by kernel_rfl) (by rfl) (by rfl) ?_
        simp only [Act.put, List.setIfInBounds_toArray, List.set_cons_zero, List.set_cons_succ]
        refine mixFskip 4 (by kernel_rfl) (by rfl) (by rfl) ?_
        simp only [Act.put, List.setIfInBounds_toArray, List.set_cons_zero, List.set_cons_succ]
        refine mixFskip 5 (by kernel_rfl) (by rfl) (by rfl) ?_
        simp only [Act.put, List.setIfInBounds_toArray, List.set_cons_zero, List.set_cons_succ]
        refine mixFskip 6 (by kernel_rfl) (by rfl) (by rfl) ?_
        simp only [Act.put, List.setIfInBounds_toArray, List.set_cons_zero, List.set_cons_succ]
        refine mixFskip 7 (by kernel_rfl) (by rfl) (by rfl) ?_
        simp only [Act.put, List.setIfInBounds_toArray, List.set_cons_zero, List.set_cons_succ]
        refine mixFskip 8 (by kernel_rfl) (by rfl) (by rfl) ?_
        simp only [Act.put, List.setIfInBounds_toArray, List.set_cons_zero, List.set_cons_succ]
        refine mixFskip 9 (by kernel_rfl) (by rfl) (by rfl) ?_
        simp only [Act.put, List.setIfInBounds_toArray, List.set_cons_zero, List.set_cons_succ]
        refine mixFskip 10 (by kernel_rfl) (by rfl) (by rfl) ?_
        simp only [Act.put, List.setIfInBounds_toArray, List.set_cons_zero, List.set_cons_succ]
        refine mixFskip 11 (by kernel_rfl) (by rfl) (by rfl) ?_
        simp only [Act.put, List.setIfInBounds_toArray, List.set_cons_zero, List.set_cons_succ]
        refine mixFskip 12 (by kernel_rfl) (by rfl) (by rfl) ?_
        simp only [Act.put, List.setIfInBounds_toArray, List.set_cons_zero, List.set_cons_succ]
        refine mixFskip 13 (by kernel_rfl) (by rfl) (by rfl) ?_
        simp only [Act.put, List.setIfInBounds_toArray, List.set_cons_zero, List.set_cons_succ]
        refine mixFskip 14 (by kernel_rfl) (by rfl) (by rfl) ?_
        simp only [Act.put, List.setIfInBounds_toArray, List.set_cons_zero, List.set_cons_succ]
        apply mixF 15 (by kernel_rfl) (by rfl) (by rfl)
        · (intro w' hx; go_simp <;> with_reducible rfl)
        simp only [Act.put, List.setIfInBounds_toArray, List.set_cons_zero, List.set_cons_succ]
        apply mixF 16 (by kernel_rfl) (by rfl) (by rfl)
        · (intro w' hx; go_simp <;> with_reducible rfl)
        simp only [Act.put, List.setIfInBounds_toArray, List.set_cons_zero, List.set_cons_succ]
        refine mixEnd (by kernel_rfl) ?_
        go_wp2
        go_ret
        exact ⟨rfl, hd.trans (hr.mono hd.size)⟩
  · have q3 : (x == 0) = false := by simpa using x0
    clear m0 m1 m2 m3
    have h2b := Sl.below hb hd
    have hzb := hd.size
    go_wp2_with fail
    refine (read_w (k := k) _ h2b hzb).mono ?_
    rintro e w7 ⟨v7, q7, rfl, hq7, ⟨A7, c7, rfl, own7⟩, he7⟩
    have hd := ext_trans hd he7
    have ht3 := Lib.hid (turn3 (b := l) (k := k))
    obtain ⟨G, hG⟩ : ∃ G, (rRead l k).1 = G := ⟨_, rfl⟩
    rw [hG] at own7
    simp only [hG]
    rw [← hq7, hG] at ht3
    clear hq7 hG
    go_wp2_with fail
    obtain ⟨Z, hZ⟩ : ∃ Z, Z = w7.alloc (.cells #[.int .i64 G.kind, .int .i64 G.key, .int .i64 G.ver, .slice A7 G.data.length c7] 32) := ⟨_, rfl⟩
    rw [← hZ]
    have bZ : Box Z w7.heap.size 32 #[.int .i64 G.kind, .int .i64 G.key, .int .i64 G.ver, .slice A7 G.data.length c7] := by rw [hZ]; exact Box.new _ _ _ rfl
    have heZ : Ext w7 Z := by rw [hZ]; exact ext_alloc _ _
    clear hZ
    have hd := ext_trans hd heZ
    have own7 := own_ext own7 heZ
    by_cases hq : q7 = 0
    · subst hq
      obtain ⟨hw, hby⟩ := ht3.out rfl
      obtain ⟨g8, _, _, g0, g1⟩ := rWrong_zero' hw
      have g1 : G.ver < 65536 := by omega
      have Hw := Lib.hid hw
      have Hby := Lib.hid hby
      have hsG := Sl.of_own own7
      clear hw hby ht3
      refine wp_region_ext 17 [0, 1, 2, 3, 5, 6, 7, 8, 10, 11, 12, 13, 14, 15, 16] false rfl (by kernel_rfl) (by kernel_rfl) ?_
      have hr : Below Z.heap.size Z Z.drew := (Below.refl _ _).drew
      apply mixF 0 (by kernel_rfl) (by rfl) (by rfl)
      · (intro w' hx; go_simp <;> with_reducible rfl)
      simp only [Act.put, List.setIfInBounds_toArray, List.set_cons_zero, List.set_cons_succ]
      apply mixF 1 (by kernel_rfl) (by rfl) (by rfl)
      · (intro w' hx; go_simp <;> with_reducible rfl)
      simp only [Act.put, List.setIfInBounds_toArray, List.set_cons_zero, List.set_cons_succ]
      apply mixF 2 (by kernel_rfl) (by rfl) (by rfl)
      · (intro w' hx; go_simp <;> with_reducible rfl)
      simp only [Act.put, List.setIfInBounds_toArray, List.set_cons_zero, List.set_cons_succ]
      apply mixF 3 (by kernel_rfl) (by rfl) (by rfl)
      · (intro w' hx; obtain ⟨t0, t1, t2, t3⟩ := (bZ.ext (ext_trans hr hx)).cells4; go_simp <;> with_reducible rfl)
      simp only [Act.put, List.setIfInBounds_toArray, List.set_cons_zero, List.set_cons_succ]
      refine mixS 4 (by kernel_rfl) (by kernel_rfl) (by rfl) (by rfl) (fun K hK => ?_)
      go_wp2_with (go_at_call 37; refine (wrong_w (r := G) _ (Sl.below hsG hr)).mono ?_; rintro e w1 ⟨rfl, he3⟩; rw [Hw.out])
      refine hK.out _ _ (he3) ?_
      clear hK K
      try simp only [Act.put, List.setIfInBounds_toArray, List.set_cons_zero, List.set_cons_succ]
      have hr := ext_trans hr he3
      apply mixF 5 (by kernel_rfl) (by rfl) (by rfl)
      · (intro w' hx; go_simp <;> with_reducible rfl)
      simp only [Act.put, List.setIfInBounds_toArray, List.set_cons_zero, List.set_cons_succ]
      apply mixF 6 (by kernel_rfl) (by rfl) (by rfl)
      · (intro w' hx; go_simp <;> with_reducible rfl)
      simp only [Act.put, List.setIfInBounds_toArray, List.set_cons_zero, List.set_cons_succ]
      apply mixF 7 (by kernel_rfl) (by rfl) (by rfl)
      · (intro w' hx; obtain ⟨t0, t1, t2, t3⟩ := (bZ.ext (ext_trans hr hx)).cells4; go_simp <;> with_reducible rfl)
      simp only [Act.put, List.setIfInBounds_toArray, List.set_cons_zero, List.set_cons_succ]
      apply mixF 8 (by kernel_rfl) (by rfl) (by rfl)
      · (intro w' hx; go_simp <;> with_reducible rfl)
      simp only [Act.put, List.setIfInBounds_toArray, List.set_cons_zero, List.set_cons_succ]
      apply mixF 11 (by kernel_rfl) (by rfl) (by rfl)
      · (intro w' hx; go_simp <;> with_reducible rfl)
      simp only [Act.put, List.setIfInBounds_toArray, List.set_cons_zero, List.set_cons_succ]
      apply mixF 12 (by kernel_rfl) (by rfl) (by rfl)
      · (intro w' hx; have q := run_str (Sl.below hb ((hd.trans (hr.mono hd.size)).trans (hx.mono (by have := hr.size; have := hd.size; omega)))); go_simp <;> with_reducible rfl)
      simp only [Act.put, List.setIfInBounds_toArray, List.set_cons_zero, List.set_cons_succ]
      refine mixS 9 (by kernel_rfl) (by kernel_rfl) (by rfl) (by rfl) (fun K hK => ?_)
      go_wp2_with (go_at_call 40; refine (bytes_w (r := G) (k := k) _ (Sl.below hsG hr) hr.size g8 g0 g1).mono ?_; rintro e w1 ⟨v9, rfl, own9, he9⟩; obtain ⟨A9, c9, rfl, hs9⟩ := own_shape own9)
      refine hK.out _ _ (he9) ?_
      clear hK K
      try simp only [Act.put, List.setIfInBounds_toArray, List.set_cons_zero, List.set_cons_succ]
      rw [Hby.out] at hs9
      have hr := ext_trans hr he9
      apply mixF 10 (by kernel_rfl) (by rfl) (by rfl)
      · (intro w' hx; have q := run_str (Sl.below hs9 hx); go_simp <;> with_reducible rfl)
      simp only [Act.put, List.setIfInBounds_toArray, List.set_cons_zero, List.set_cons_succ]
      apply mixF 13 (by kernel_rfl) (by rfl) (by rfl)
      · (intro w' hx; go_simp <;> with_reducible rfl)
      simp only [Act.put, List.setIfInBounds_toArray, List.set_cons_zero, List.set_cons_succ]
      apply mixF 14 (by kernel_rfl) (by rfl) (by rfl)
      · (intro w' hx; go_simp <;> with_reducible rfl)
      simp only [Act.put, List.setIfInBounds_toArray, List.set_cons_zero, List.set_cons_succ]
      apply mixF 15 (by kernel_rfl) (by rfl) (by rfl)
      · (intro w' hx; go_simp <;> with_reducible rfl)
      simp only [Act.put, List.setIfInBounds_toArray, List.set_cons_zero, List.set_cons_succ]
      apply mixF 16 (by kernel_rfl) (by rfl) (by rfl)
      · (intro w' hx; go_simp <;> with_reducible rfl)
      simp only [Act.put, List.setIfInBounds_toArray, List.set_cons_zero, List.set_cons_succ]
      refine mixEnd (by kernel_rfl) ?_
      go_wp2
      go_ret
      exact ⟨rfl, hd.trans (hr.mono hd.size)⟩
    · have qn : (q7 != 0) = true := by simpa using hq
      refine wp_region_ext 17 [0, 1, 2, 3, 4, 5, 6, 7, 8, 9, 10, 11, 12, 13, 14, 15, 16] false rfl (by kernel_rfl) (by kernel_rfl) ?_
      have hr : Below Z.heap.size Z Z.drew := (Below.refl _ _).drew
      apply mixF 0 (by kernel_rfl) (by rfl) (by rfl)
      · (intro w' hx; go_simp <;> with_reducible rfl)
      simp only [Act.put, List.setIfInBounds_toArray, List.set_cons_zero, List.set_cons_succ]
      apply mixF 1 (by kernel_rfl) (by rfl) (by rfl)
      · (intro w' hx; go_simp <;> with_reducible rfl)
      simp only [Act.put, List.setIfInBounds_toArray, List.set_cons_zero, List.set_cons_succ]
      apply mixF 2 (by kernel_rfl) (by rfl) (by rfl)
      · (intro w' hx; go_simp <;> with_reducible rfl)
      simp only [Act.put, List.setIfInBounds_toArray, List.set_cons_zero, List.set_cons_succ]
      refine mixFskip 3 (by kernel_rfl) (by rfl) (by rfl) ?_
      simp only [Act.put, List.setIfInBounds_toArray, List.set_cons_zero, List.set_cons_succ]
      refine mixFskip 4 (by kernel_rfl) (by rfl) (by rfl) ?_
      simp only [Act.put, List.setIfInBounds_toArray, List.set_cons_zero, List.set_cons_succ]
      refine mixFskip 5 (by kernel_rfl) (by rfl) (by rfl) ?_
      simp only [Act.put, List.setIfInBounds_toArray, List.set_cons_zero, List.set_cons_succ]
      refine mixFskip 6 (by kernel_rfl) (by rfl) (by rfl) ?_
      simp only [Act.put, List.setIfInBounds_toArray, List.set_cons_zero, List.set_cons_succ]
      refine mixFskip 7 (by kernel_rfl) (by rfl) (by rfl) ?_
      simp only [Act.put, List.setIfInBounds_toArray, List.set_cons_zero, List.set_cons_succ]
      refine mixFskip 8 (by kernel_rfl) (by rfl) (by rfl) ?_
      simp only [Act.put, List.setIfInBounds_toArray, List.set_cons_zero, List.set_cons_succ]
      refine mixFskip 9 (by kernel_rfl) (by rfl) (by rfl) ?_
      simp only [Act.put, List.setIfInBounds_toArray, List.set_cons_zero, List.set_cons_succ]
      refine mixFskip 10 (by kernel_rfl) (by rfl) (by rfl) ?_
      simp only [Act.put, List.setIfInBounds_toArray, List.set_cons_zero, List.set_cons_succ]
      refine mixFskip 11 (by kernel_rfl) (by rfl) (by rfl) ?_
      simp only [Act.put, List.setIfInBounds_toArray, List.set_cons_zero, List.set_cons_succ]
      refine mixFskip 12 (by kernel_rfl) (by rfl) (by rfl) ?_
      simp only [Act.put, List.setIfInBounds_toArray, List.set_cons_zero, List.set_cons_succ]
      refine mixFskip 13 (by kernel_rfl) (by rfl) (by rfl) ?_
      simp only [Act.put, List.setIfInBounds_toArray, List.set_cons_zero, List.set_cons_succ]
      refine mixFskip 14 (by kernel_rfl) (by rfl) (by rfl) ?_
      simp only [Act.put, List.setIfInBounds_toArray, List.set_cons_zero, List.set_cons_succ]
      apply mixF 15 (by kernel_rfl) (by rfl) (by rfl)
      · (intro w' hx; go_simp <;> with_reducible rfl)
      simp only [Act.put, List.setIfInBounds_toArray, List.set_cons_zero, List.set_cons_succ]
      apply mixF 16 (by kernel_rfl) (by rfl) (by rfl)
      · (intro w' hx; go_simp <;> with_reducible rfl)
      simp only [Act.put, List.setIfInBounds_toArray, List.set_cons_zero, List.set_cons_succ]
      refine mixEnd (by kernel_rfl) ?_
      go_wp2
      go_ret
      exact ⟨rfl, hd.trans (hr.mono hd.size)⟩

end Go.Proofs.Ytnganglmpcbcbaa
