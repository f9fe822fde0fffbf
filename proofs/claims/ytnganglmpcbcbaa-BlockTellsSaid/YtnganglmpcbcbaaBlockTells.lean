/- BlockTells: the law's own walk. -/
import Derived.Test.YtnganglmpcbcbaaRefBytes
import Derived.Test.YtnganglmpcbcbaaRefRead
namespace Go.Proofs.Ytnganglmpcbcbaa
open Go Go.RowKit

theorem Box.cells4 {w : World} {g : Nat} {t : TypeId} {a b c d : Value} (h : Box w g t #[a, b, c, d]) : w.cell? ⟨g, 0, none⟩ = some a ∧ w.cell? ⟨g, 1, none⟩ = some b ∧ w.cell? ⟨g, 2, none⟩ = some c ∧ w.cell? ⟨g, 3, none⟩ = some d := ⟨h.cell 0 rfl, h.cell 1 rfl, h.cell 2 rfl, h.cell 3 rfl⟩
theorem rWrong_zero {r : Rec} (h : rWrong r = 0) : r.data.length ≤ 8 ∧ 0 ≤ r.ver ∧ r.ver ≤ 60000 := by
  unfold rWrong at h
  split at h
  · omega
  split at h
  · omega
  split at h
  · omega
  split at h
  · omega
  omega
theorem rSame_self (r : Rec) : rSame r r = true := (rSame_iff r r).2 rfl

set_option maxRecDepth 100000 in
set_option maxHeartbeats 20000000 in
theorem blockTells_law (w : World) {A A' A2 : Option Addr} {n c n' c' n2 c2 : Nat} {r s : Rec} {l : List UInt8} {k : Int}
    (hp : By w w.heap.size A n c r.data) (hpn : n + 4096 ≤ blim) (hq : By w w.heap.size A' n' c' s.data) (_ : n' + 4096 ≤ blim) (hb : By w w.heap.size A2 n2 c2 l) (hbn : n2 + 4096 ≤ blim) (_ : -9223372036854775808 ≤ k ∧ k ≤ 9223372036854775807) :
    Calls Try.prog 5 #[.agg #[.int .i64 r.kind, .int .i64 r.key, .int .i64 r.ver, .slice A n c], .agg #[.int .i64 s.kind, .int .i64 s.key, .int .i64 s.ver, .slice A' n' c'], .slice A2 n2 c2, .int .i64 k] w fun e w' => e = .returned (.bool true) ∧ Ext w w' := by
  go_enter Try.func5, Try.ntmps5
  go_wp2_with fail
  obtain ⟨W, hW⟩ : ∃ W, W = (w.alloc (.cells #[.int .i64 r.kind, .int .i64 r.key, .int .i64 r.ver, .slice A n c] 32)).alloc (.cells #[.int .i64 s.kind, .int .i64 s.key, .int .i64 s.ver, .slice A' n' c'] 32) := ⟨_, rfl⟩
  rw [← hW]
  have bp : Box W w.heap.size 32 #[.int .i64 r.kind, .int .i64 r.key, .int .i64 r.ver, .slice A n c] := by rw [hW]; exact (Box.new w _ _ rfl).alloc _
  have bq : Box W (w.heap.size + 1) 32 #[.int .i64 s.kind, .int .i64 s.key, .int .i64 s.ver, .slice A' n' c'] := by rw [hW]; exact Box.new _ _ _ (size_alloc _ _).symm
  have hwW : Ext w W := by rw [hW]; exact ext_trans (ext_alloc _ _) (ext_alloc _ _)
  clear hW
  have hp := Sl.below hp hwW
  have hq := Sl.below hq hwW
  have hb := Sl.below hb hwW
  have hzW := hwW.size
  refine wp_region_ext 21 [0, 1, 3, 4, 6, 7, 8, 10, 12, 13, 14, 15, 17, 19, 20] false rfl (by kernel_rfl) (by kernel_rfl) ?_
  have hd : Below W.heap.size W W.drew := (Below.refl _ _).drew
  apply mixF 0 (by kernel_rfl) (by rfl) (by rfl)
  · (intro w' hx; obtain ⟨q0, q1, q2, q3⟩ := (bp.ext (ext_trans hd hx)).cells4; go_simp <;> with_reducible rfl)
  simp only [Act.put, List.setIfInBounds_toArray, List.set_cons_zero, List.set_cons_succ]
  apply mixF 1 (by kernel_rfl) (by rfl) (by rfl)
  · (intro w' hx; obtain ⟨q0, q1, q2, q3⟩ := (bq.ext (ext_trans hd hx)).cells4; go_simp <;> with_reducible rfl)
  simp only [Act.put, List.setIfInBounds_toArray, List.set_cons_zero, List.set_cons_succ]
  apply mixF 3 (by kernel_rfl) (by rfl) (by rfl)
  · (intro w' hx; obtain ⟨q0, q1, q2, q3⟩ := (bp.ext (ext_trans hd hx)).cells4; go_simp <;> with_reducible rfl)
  simp only [Act.put, List.setIfInBounds_toArray, List.set_cons_zero, List.set_cons_succ]
  apply mixF 4 (by kernel_rfl) (by rfl) (by rfl)
  · (intro w' hx; obtain ⟨q0, q1, q2, q3⟩ := (bq.ext (ext_trans hd hx)).cells4; go_simp <;> with_reducible rfl)
  simp only [Act.put, List.setIfInBounds_toArray, List.set_cons_zero, List.set_cons_succ]
  obtain ⟨z, hz⟩ : ∃ z, rSame r s = z := ⟨_, rfl⟩
  refine mixS 2 (by kernel_rfl) (by kernel_rfl) (by rfl) (by rfl) (fun K hK => ?_)
  go_wp2_with (go_at_call 35; refine (same_w _ (Sl.below hp (hd.mono hzW)) (Sl.below hq (hd.mono hzW)) (Nat.le_trans hzW hd.size) (Nat.le_trans hzW hd.size)).mono ?_; rintro e w1 ⟨rfl, he1⟩; rw [hz])
  refine hK.out _ _ (he1) ?_
  clear hK K
  try simp only [Act.put, List.setIfInBounds_toArray, List.set_cons_zero, List.set_cons_succ]
  have hd := ext_trans hd he1
  refine mixS 5 (by kernel_rfl) (by kernel_rfl) (by rfl) (by rfl) (fun K hK => ?_)
  go_wp2_with (go_at_call 36; refine (refSame_w _ (Sl.below hp (hd.mono hzW)) (Sl.below hq (hd.mono hzW)) (Nat.le_trans hzW hd.size) (Nat.le_trans hzW hd.size)).mono ?_; rintro e w1 ⟨rfl, he2⟩; rw [hz])
  refine hK.out _ _ (he2) ?_
  clear hK K
  try simp only [Act.put, List.setIfInBounds_toArray, List.set_cons_zero, List.set_cons_succ]
  have hd := ext_trans hd he2
  apply mixF 6 (by kernel_rfl) (by rfl) (by rfl)
  · (intro w' hx; go_simp <;> with_reducible rfl)
  simp only [Act.put, List.setIfInBounds_toArray, List.set_cons_zero, List.set_cons_succ]
  apply mixF 7 (by kernel_rfl) (by rfl) (by rfl)
  · (intro w' hx; go_simp <;> with_reducible rfl)
  simp only [Act.put, List.setIfInBounds_toArray, List.set_cons_zero, List.set_cons_succ]
  apply mixF 8 (by kernel_rfl) (by rfl) (by rfl)
  · (intro w' hx; obtain ⟨q0, q1, q2, q3⟩ := (bp.ext (ext_trans hd hx)).cells4; go_simp <;> with_reducible rfl)
  simp only [Act.put, List.setIfInBounds_toArray, List.set_cons_zero, List.set_cons_succ]
  apply mixF 10 (by kernel_rfl) (by rfl) (by rfl)
  · (intro w' hx; obtain ⟨q0, q1, q2, q3⟩ := (bp.ext (ext_trans hd hx)).cells4; go_simp <;> with_reducible rfl)
  simp only [Act.put, List.setIfInBounds_toArray, List.set_cons_zero, List.set_cons_succ]
  obtain ⟨x, hx2⟩ : ∃ x, rWrong r = x := ⟨_, rfl⟩
  refine mixS 9 (by kernel_rfl) (by kernel_rfl) (by rfl) (by rfl) (fun K hK => ?_)
  go_wp2_with (go_at_call 37; refine (wrong_w (r := r) _ (Sl.below hp (hd.mono hzW))).mono ?_; rintro e w1 ⟨rfl, he3⟩; rw [hx2])
  refine hK.out _ _ (he3) ?_
  clear hK K
  try simp only [Act.put, List.setIfInBounds_toArray, List.set_cons_zero, List.set_cons_succ]
  have hd := ext_trans hd he3
  refine mixS 11 (by kernel_rfl) (by kernel_rfl) (by rfl) (by rfl) (fun K hK => ?_)
  go_wp2_with (go_at_call 38; refine (refWrong_w (r := r) _ (Sl.below hp (hd.mono hzW))).mono ?_; rintro e w1 ⟨rfl, he4⟩; rw [hx2])
  refine hK.out _ _ (he4) ?_
  clear hK K
  try simp only [Act.put, List.setIfInBounds_toArray, List.set_cons_zero, List.set_cons_succ]
  have hd := ext_trans hd he4
  apply mixF 12 (by kernel_rfl) (by rfl) (by rfl)
  · (intro w' hx; go_simp <;> with_reducible rfl)
  simp only [Act.put, List.setIfInBounds_toArray, List.set_cons_zero, List.set_cons_succ]
  apply mixF 13 (by kernel_rfl) (by rfl) (by rfl)
  · (intro w' hx; go_simp <;> with_reducible rfl)
  simp only [Act.put, List.setIfInBounds_toArray, List.set_cons_zero, List.set_cons_succ]
  apply mixF 14 (by kernel_rfl) (by rfl) (by rfl)
  · (intro w' hx; go_simp <;> with_reducible rfl)
  simp only [Act.put, List.setIfInBounds_toArray, List.set_cons_zero, List.set_cons_succ]
  apply mixF 15 (by kernel_rfl) (by rfl) (by rfl)
  · (intro w' hx; obtain ⟨q0, q1, q2, q3⟩ := (bp.ext (ext_trans hd hx)).cells4; go_simp <;> with_reducible rfl)
  simp only [Act.put, List.setIfInBounds_toArray, List.set_cons_zero, List.set_cons_succ]
  apply mixF 17 (by kernel_rfl) (by rfl) (by rfl)
  · (intro w' hx; obtain ⟨q0, q1, q2, q3⟩ := (bp.ext (ext_trans hd hx)).cells4; go_simp <;> with_reducible rfl)
  simp only [Act.put, List.setIfInBounds_toArray, List.set_cons_zero, List.set_cons_succ]
  refine mixS 16 (by kernel_rfl) (by kernel_rfl) (by rfl) (by rfl) (fun K hK => ?_)
  go_wp2_with (go_at_call 39; refine (own_w (r := r) _ (Sl.below hp (hd.mono hzW)) (Nat.le_trans hzW hd.size) (by omega)).mono ?_; rintro e w1 ⟨_, rfl, ⟨A1, c1, rfl, own1⟩, he5⟩)
  refine hK.out _ _ (he5) ?_
  clear hK K
  try simp only [Act.put, List.setIfInBounds_toArray, List.set_cons_zero, List.set_cons_succ]
  have hd := ext_trans hd he5
  have hs := Lib.hid (rSame_self r)
  refine mixS 18 (by kernel_rfl) (by kernel_rfl) (by rfl) (by rfl) (fun K hK => ?_)
  go_wp2_with (go_at_call 36; refine (refSame_w (r := r) (s := r) _ (Sl.of_own own1) (Sl.below hp (hd.mono hzW)) (Nat.le_refl _) (Nat.le_trans hzW hd.size)).mono ?_; rintro e w1 ⟨rfl, he6⟩; rw [hs.out])
  refine hK.out _ _ (he6) ?_
  clear hK K
  try simp only [Act.put, List.setIfInBounds_toArray, List.set_cons_zero, List.set_cons_succ]
  have hd := ext_trans hd he6
  apply mixF 19 (by kernel_rfl) (by rfl) (by rfl)
  · (intro w' hx; go_simp <;> with_reducible rfl)
  simp only [Act.put, List.setIfInBounds_toArray, List.set_cons_zero, List.set_cons_succ]
  apply mixF 20 (by kernel_rfl) (by rfl) (by rfl)
  · (intro w' hx; go_simp <;> with_reducible rfl)
  simp only [Act.put, List.setIfInBounds_toArray, List.set_cons_zero, List.set_cons_succ]
  refine mixEnd (by kernel_rfl) ?_
  clear own1 he1 he2 he3 he4 he5 he6
  go_wp2_with fail
  by_cases hx0 : x = 0
  · subst hx0
    by_cases k0 : k < 0
    · have qk : decide ((0 : Int) ≤ k) = false := by simp; omega
      refine wp_region_ext 22 [0, 2, 3, 4, 5, 6, 7, 8, 9, 10, 11, 12, 13, 14, 15, 16, 17, 18, 19, 20, 21] false rfl (by kernel_rfl) (by kernel_rfl) ?_
      have hd := hd.drew
      apply mixF 0 (by kernel_rfl) (by rfl) (by rfl)
      · (intro w' hx; obtain ⟨q0, q1, q2, q3⟩ := (bp.ext (ext_trans hd hx)).cells4; go_simp <;> with_reducible rfl)
      simp only [Act.put, List.setIfInBounds_toArray, List.set_cons_zero, List.set_cons_succ]
      refine mixS 1 (by kernel_rfl) (by kernel_rfl) (by rfl) (by rfl) (fun K hK => ?_)
      go_wp2_with (go_at_call 38; refine (refWrong_w (r := r) _ (Sl.below hp (hd.mono hzW))).mono ?_; rintro e w1 ⟨rfl, he4⟩; rw [hx2])
      refine hK.out _ _ (he4) ?_
      clear hK K
      try simp only [Act.put, List.setIfInBounds_toArray, List.set_cons_zero, List.set_cons_succ]
      have hd := ext_trans hd he4
      apply mixF 2 (by kernel_rfl) (by rfl) (by rfl)
      · (intro w' hx; go_simp <;> with_reducible rfl)
      simp only [Act.put, List.setIfInBounds_toArray, List.set_cons_zero, List.set_cons_succ]
      apply mixF 3 (by kernel_rfl) (by rfl) (by rfl)
      · (intro w' hx; go_simp <;> with_reducible rfl)
      simp only [Act.put, List.setIfInBounds_toArray, List.set_cons_zero, List.set_cons_succ]
      apply mixF 4 (by kernel_rfl) (by rfl) (by rfl)
      · (intro w' hx; go_simp <;> with_reducible rfl)
      simp only [Act.put, List.setIfInBounds_toArray, List.set_cons_zero, List.set_cons_succ]
      apply mixF 5 (by kernel_rfl) (by rfl) (by rfl)
      · (intro w' hx; go_simp <;> with_reducible rfl)
      simp only [Act.put, List.setIfInBounds_toArray, List.set_cons_zero, List.set_cons_succ]
      apply mixF 6 (by kernel_rfl) (by rfl) (by rfl)
      · (intro w' hx; go_simp <;> with_reducible rfl)
      simp only [Act.put, List.setIfInBounds_toArray, List.set_cons_zero, List.set_cons_succ]
      apply mixF 7 (by kernel_rfl) (by rfl) (by rfl)
      · (intro w' hx; go_simp <;> with_reducible rfl)
      simp only [Act.put, List.setIfInBounds_toArray, List.set_cons_zero, List.set_cons_succ]
      refine mixFskip 8 (by kernel_rfl) (by rfl) (by rfl) ?_
      simp only [Act.put, List.setIfInBounds_toArray, List.set_cons_zero, List.set_cons_succ]
      refine mixFskip 9 (by kernel_rfl) (by rfl) (by rfl) ?_
      simp only [Act.put, List.setIfInBounds_toArray, List.set_cons_zero, List.set_cons_succ]
      apply mixF 10 (by kernel_rfl) (by rfl) (by rfl)
      · (intro w' hx; go_simp <;> with_reducible rfl)
      simp only [Act.put, List.setIfInBounds_toArray, List.set_cons_zero, List.set_cons_succ]
      apply mixF 11 (by kernel_rfl) (by rfl) (by rfl)
      · (intro w' hx; go_simp <;> with_reducible rfl)
      simp only [Act.put, List.setIfInBounds_toArray, List.set_cons_zero, List.set_cons_succ]
      refine mixFskip 12 (by kernel_rfl) (by rfl) (by rfl) ?_
      simp only [Act.put, List.setIfInBounds_toArray, List.set_cons_zero, List.set_cons_succ]
      refine mixFskip 13 (by kernel_rfl) (by rfl) (by rfl) ?_
      simp only [Act.put, List.setIfInBounds_toArray, List.set_cons_zero, List.set_cons_succ]
      refine mixFskip 14 (by kernel_rfl) (by rfl) (by rfl) ?_
      simp only [Act.put, List.setIfInBounds_toArray, List.set_cons_zero, List.set_cons_succ]
      refine mixFskip 15 (by kernel_rfl) (by rfl) (by rfl) ?_
      simp only [Act.put, List.setIfInBounds_toArray, List.set_cons_zero, List.set_cons_succ]
      refine mixFskip 16 (by kernel_rfl) (by rfl) (by rfl) ?_
      simp only [Act.put, List.setIfInBounds_toArray, List.set_cons_zero, List.set_cons_succ]
      refine mixFskip 17 (by kernel_rfl) (by rfl) (by rfl) ?_
      simp only [Act.put, List.setIfInBounds_toArray, List.set_cons_zero, List.set_cons_succ]
      refine mixFskip 18 (by kernel_rfl) (by rfl) (by rfl) ?_
      simp only [Act.put, List.setIfInBounds_toArray, List.set_cons_zero, List.set_cons_succ]
      refine mixFskip 19 (by kernel_rfl) (by rfl) (by rfl) ?_
      simp only [Act.put, List.setIfInBounds_toArray, List.set_cons_zero, List.set_cons_succ]
      refine mixFskip 20 (by kernel_rfl) (by rfl) (by rfl) ?_
      simp only [Act.put, List.setIfInBounds_toArray, List.set_cons_zero, List.set_cons_succ]
      apply mixF 21 (by kernel_rfl) (by rfl) (by rfl)
      · (intro w' hx; go_simp <;> with_reducible rfl)
      simp only [Act.put, List.setIfInBounds_toArray, List.set_cons_zero, List.set_cons_succ]
      refine mixEnd (by kernel_rfl) ?_
      go_wp2_with fail
      have hzd := hd.size
      refine (read_w (k := k) _ (Sl.below hb (hd.mono hzW)) (by omega)).mono ?_
      rintro e w2 ⟨v, q, rfl, hq1, ⟨A3, c3, rfl, own3⟩, he7⟩
      subst hq1
      have hd := ext_trans hd he7
      go_wp2_with fail
      obtain ⟨X, hX⟩ : ∃ X, X = w2.alloc (.cells #[.int .i64 (rRead l k).1.kind, .int .i64 (rRead l k).1.key, .int .i64 (rRead l k).1.ver, .slice A3 (rRead l k).1.data.length c3] 32) := ⟨_, rfl⟩
      rw [← hX]
      have b9 : Box X w2.heap.size 32 #[.int .i64 (rRead l k).1.kind, .int .i64 (rRead l k).1.key, .int .i64 (rRead l k).1.ver, .slice A3 (rRead l k).1.data.length c3] := by rw [hX]; exact Box.new _ _ _ rfl
      have heX : Ext w2 X := by rw [hX]; exact ext_alloc _ _
      have hd := ext_trans hd heX
      have own3 := own_ext own3 heX
      have hzX := hd.size
      clear hX
      refine (refRead_w (k := k) _ (Sl.below hb (hd.mono hzW)) (by omega) (by omega)).mono ?_
      rintro e w3 ⟨v', q', rfl, hq2, ⟨A4, c4, rfl, own4⟩, he8⟩
      subst hq2
      have hd := ext_trans hd he8
      have b9 := b9.ext he8
      have own3 := own_ext own3 he8
      obtain ⟨m0, m1, m2, m3⟩ := b9.cells4
      have hlt9 := b9.lt
      have hs := Lib.hid (rSame_self (rRead l k).1)
      go_wp2_with fail
      refine (refSame_w (r := (rRead l k).1) (s := (rRead l k).1) _ (Sl.alloc (Sl.of_own own3) (Nat.le_refl _) _) (Sl.alloc (Sl.of_own own4) (Nat.le_refl _) _) (by simp) (by simp)).mono ?_
      rintro e w5 ⟨rfl, he9⟩
      rw [hs.out]
      go_wp2
      go_ret
      exact ⟨rfl, hwW.trans ((hd.mono hzW).trans (((ext_alloc _ _).mono (by have := hd.size; omega)).trans (he9.mono (by have := hd.size; simp; omega))))⟩
    · have qk : decide ((0 : Int) ≤ k) = true := by simp; omega
      by_cases k1 : k < 256
      · have qk1 : decide (k < 256) = true := by simp; omega
        have hnp := Sl.len hp
        rw [u8s_length] at hnp
        obtain ⟨hn8, hv0, hv1⟩ := rWrong_zero hx2
        have hn8 : n ≤ 8 := by omega
        have hv1 : r.ver < 65536 := by omega
        refine wp_region_ext 22 [0, 2, 3, 4, 5, 6, 7, 8, 9, 10, 11, 12, 13, 15, 16, 17, 19, 20, 21] false rfl (by kernel_rfl) (by kernel_rfl) ?_
        have hd := hd.drew
        apply mixF 0 (by kernel_rfl) (by rfl) (by rfl)
        · (intro w' hx; obtain ⟨q0, q1, q2, q3⟩ := (bp.ext (ext_trans hd hx)).cells4; go_simp <;> with_reducible rfl)
        simp only [Act.put, List.setIfInBounds_toArray, List.set_cons_zero, List.set_cons_succ]
        refine mixS 1 (by kernel_rfl) (by kernel_rfl) (by rfl) (by rfl) (fun K hK => ?_)
        go_wp2_with (go_at_call 38; refine (refWrong_w (r := r) _ (Sl.below hp (hd.mono hzW))).mono ?_; rintro e w1 ⟨rfl, he4⟩; rw [hx2])
        refine hK.out _ _ (he4) ?_
        clear hK K
        try simp only [Act.put, List.setIfInBounds_toArray, List.set_cons_zero, List.set_cons_succ]
        have hd := ext_trans hd he4
        apply mixF 2 (by kernel_rfl) (by rfl) (by rfl)
        · (intro w' hx; go_simp <;> with_reducible rfl)
        simp only [Act.put, List.setIfInBounds_toArray, List.set_cons_zero, List.set_cons_succ]
        apply mixF 3 (by kernel_rfl) (by rfl) (by rfl)
        · (intro w' hx; go_simp <;> with_reducible rfl)
        simp only [Act.put, List.setIfInBounds_toArray, List.set_cons_zero, List.set_cons_succ]
        apply mixF 4 (by kernel_rfl) (by rfl) (by rfl)
        · (intro w' hx; go_simp <;> with_reducible rfl)
        simp only [Act.put, List.setIfInBounds_toArray, List.set_cons_zero, List.set_cons_succ]
        apply mixF 5 (by kernel_rfl) (by rfl) (by rfl)
        · (intro w' hx; go_simp <;> with_reducible rfl)
        simp only [Act.put, List.setIfInBounds_toArray, List.set_cons_zero, List.set_cons_succ]
        apply mixF 6 (by kernel_rfl) (by rfl) (by rfl)
        · (intro w' hx; go_simp <;> with_reducible rfl)
        simp only [Act.put, List.setIfInBounds_toArray, List.set_cons_zero, List.set_cons_succ]
        apply mixF 7 (by kernel_rfl) (by rfl) (by rfl)
        · (intro w' hx; go_simp <;> with_reducible rfl)
        simp only [Act.put, List.setIfInBounds_toArray, List.set_cons_zero, List.set_cons_succ]
        apply mixF 8 (by kernel_rfl) (by rfl) (by rfl)
        · (intro w' hx; go_simp <;> with_reducible rfl)
        simp only [Act.put, List.setIfInBounds_toArray, List.set_cons_zero, List.set_cons_succ]
        apply mixF 9 (by kernel_rfl) (by rfl) (by rfl)
        · (intro w' hx; go_simp <;> with_reducible rfl)
        simp only [Act.put, List.setIfInBounds_toArray, List.set_cons_zero, List.set_cons_succ]
        apply mixF 10 (by kernel_rfl) (by rfl) (by rfl)
        · (intro w' hx; go_simp <;> with_reducible rfl)
        simp only [Act.put, List.setIfInBounds_toArray, List.set_cons_zero, List.set_cons_succ]
        apply mixF 11 (by kernel_rfl) (by rfl) (by rfl)
        · (intro w' hx; go_simp <;> with_reducible rfl)
        simp only [Act.put, List.setIfInBounds_toArray, List.set_cons_zero, List.set_cons_succ]
        apply mixF 12 (by kernel_rfl) (by rfl) (by rfl)
        · (intro w' hx; obtain ⟨q0, q1, q2, q3⟩ := (bp.ext (ext_trans hd hx)).cells4; go_simp <;> with_reducible rfl)
        simp only [Act.put, List.setIfInBounds_toArray, List.set_cons_zero, List.set_cons_succ]
        apply mixF 13 (by kernel_rfl) (by rfl) (by rfl)
        · (intro w' hx; go_simp <;> with_reducible rfl)
        simp only [Act.put, List.setIfInBounds_toArray, List.set_cons_zero, List.set_cons_succ]
        apply mixF 16 (by kernel_rfl) (by rfl) (by rfl)
        · (intro w' hx; obtain ⟨q0, q1, q2, q3⟩ := (bp.ext (ext_trans hd hx)).cells4; go_simp <;> with_reducible rfl)
        simp only [Act.put, List.setIfInBounds_toArray, List.set_cons_zero, List.set_cons_succ]
        apply mixF 17 (by kernel_rfl) (by rfl) (by rfl)
        · (intro w' hx; go_simp <;> with_reducible rfl)
        simp only [Act.put, List.setIfInBounds_toArray, List.set_cons_zero, List.set_cons_succ]
        refine mixS 14 (by kernel_rfl) (by kernel_rfl) (by rfl) (by rfl) (fun K hK => ?_)
        go_wp2_with (go_at_call 40; refine (bytes_w (r := r) (k := k) _ (Sl.below hp (hd.mono hzW)) (Nat.le_trans hzW hd.size) hn8 hv0 hv1).mono ?_; rintro e w1 ⟨v1, rfl, own8, he8⟩; obtain ⟨A8, c8, rfl, hs8⟩ := own_shape own8)
        refine hK.out _ _ (he8) ?_
        clear hK K
        try simp only [Act.put, List.setIfInBounds_toArray, List.set_cons_zero, List.set_cons_succ]
        have hd := ext_trans hd he8
        apply mixF 15 (by kernel_rfl) (by rfl) (by rfl)
        · (intro w' hx; have q := run_str (Sl.below hs8 hx); go_simp <;> with_reducible rfl)
        simp only [Act.put, List.setIfInBounds_toArray, List.set_cons_zero, List.set_cons_succ]
        refine mixS 18 (by kernel_rfl) (by kernel_rfl) (by rfl) (by rfl) (fun K hK => ?_)
        go_wp2_with (go_at_call 41; refine (refBytes_w (r := r) (k := k) _ (Sl.below hp (hd.mono hzW)) (Nat.le_trans hzW hd.size) hn8 hv0 hv1).mono ?_; rintro e w1 ⟨v1, rfl, own9, he9⟩; obtain ⟨A9, c9, rfl, hs9⟩ := own_shape own9)
        refine hK.out _ _ (he9) ?_
        clear hK K
        try simp only [Act.put, List.setIfInBounds_toArray, List.set_cons_zero, List.set_cons_succ]
        have hd := ext_trans hd he9
        apply mixF 19 (by kernel_rfl) (by rfl) (by rfl)
        · (intro w' hx; have q := run_str (Sl.below hs9 hx); go_simp <;> with_reducible rfl)
        simp only [Act.put, List.setIfInBounds_toArray, List.set_cons_zero, List.set_cons_succ]
        apply mixF 20 (by kernel_rfl) (by rfl) (by rfl)
        · (intro w' hx; go_simp <;> with_reducible rfl)
        simp only [Act.put, List.setIfInBounds_toArray, List.set_cons_zero, List.set_cons_succ]
        apply mixF 21 (by kernel_rfl) (by rfl) (by rfl)
        · (intro w' hx; go_simp <;> with_reducible rfl)
        simp only [Act.put, List.setIfInBounds_toArray, List.set_cons_zero, List.set_cons_succ]
        refine mixEnd (by kernel_rfl) ?_
        go_wp2_with fail
        have hzd := hd.size
        refine (read_w (k := k) _ (Sl.below hb (hd.mono hzW)) (by omega)).mono ?_
        rintro e w2 ⟨v, q, rfl, hq1, ⟨A3, c3, rfl, own3⟩, he7⟩
        subst hq1
        have hd := ext_trans hd he7
        go_wp2_with fail
        obtain ⟨X, hX⟩ : ∃ X, X = w2.alloc (.cells #[.int .i64 (rRead l k).1.kind, .int .i64 (rRead l k).1.key, .int .i64 (rRead l k).1.ver, .slice A3 (rRead l k).1.data.length c3] 32) := ⟨_, rfl⟩
        rw [← hX]
        have b9 : Box X w2.heap.size 32 #[.int .i64 (rRead l k).1.kind, .int .i64 (rRead l k).1.key, .int .i64 (rRead l k).1.ver, .slice A3 (rRead l k).1.data.length c3] := by rw [hX]; exact Box.new _ _ _ rfl
        have heX : Ext w2 X := by rw [hX]; exact ext_alloc _ _
        have hd := ext_trans hd heX
        have own3 := own_ext own3 heX
        have hzX := hd.size
        clear hX
        refine (refRead_w (k := k) _ (Sl.below hb (hd.mono hzW)) (by omega) (by omega)).mono ?_
        rintro e w3 ⟨v', q', rfl, hq2, ⟨A4, c4, rfl, own4⟩, he8⟩
        subst hq2
        have hd := ext_trans hd he8
        have b9 := b9.ext he8
        have own3 := own_ext own3 he8
        obtain ⟨m0, m1, m2, m3⟩ := b9.cells4
        have hlt9 := b9.lt
        have hs := Lib.hid (rSame_self (rRead l k).1)
        go_wp2_with fail
        refine (refSame_w (r := (rRead l k).1) (s := (rRead l k).1) _ (Sl.alloc (Sl.of_own own3) (Nat.le_refl _) _) (Sl.alloc (Sl.of_own own4) (Nat.le_refl _) _) (by simp) (by simp)).mono ?_
        rintro e w5 ⟨rfl, he9⟩
        rw [hs.out]
        go_wp2
        go_ret
        exact ⟨rfl, hwW.trans ((hd.mono hzW).trans (((ext_alloc _ _).mono (by have := hd.size; omega)).trans (he9.mono (by have := hd.size; simp; omega))))⟩
      · have qk1 : decide (k < 256) = false := by simp; omega
        refine wp_region_ext 22 [0, 2, 3, 4, 5, 6, 7, 8, 9, 10, 11, 12, 13, 14, 15, 16, 17, 18, 19, 20, 21] false rfl (by kernel_rfl) (by kernel_rfl) ?_
        have hd := hd.drew
        apply mixF 0 (by kernel_rfl) (by rfl) (by rfl)
        · (intro w' hx; obtain ⟨q0, q1, q2, q3⟩ := (bp.ext (ext_trans hd hx)).cells4; go_simp <;> with_reducible rfl)
        simp only [Act.put, List.setIfInBounds_toArray, List.set_cons_zero, List.set_cons_succ]
        refine mixS 1 (by kernel_rfl) (by kernel_rfl) (by rfl) (by rfl) (fun K hK => ?_)
        go_wp2_with (go_at_call 38; refine (refWrong_w (r := r) _ (Sl.below hp (hd.mono hzW))).mono ?_; rintro e w1 ⟨rfl, he4⟩; rw [hx2])
        refine hK.out _ _ (he4) ?_
        clear hK K
        try simp only [Act.put, List.setIfInBounds_toArray, List.set_cons_zero, List.set_cons_succ]
        have hd := ext_trans hd he4
        apply mixF 2 (by kernel_rfl) (by rfl) (by rfl)
        · (intro w' hx; go_simp <;> with_reducible rfl)
        simp only [Act.put, List.setIfInBounds_toArray, List.set_cons_zero, List.set_cons_succ]
        apply mixF 3 (by kernel_rfl) (by rfl) (by rfl)
        · (intro w' hx; go_simp <;> with_reducible rfl)
        simp only [Act.put, List.setIfInBounds_toArray, List.set_cons_zero, List.set_cons_succ]
        apply mixF 4 (by kernel_rfl) (by rfl) (by rfl)
        · (intro w' hx; go_simp <;> with_reducible rfl)
        simp only [Act.put, List.setIfInBounds_toArray, List.set_cons_zero, List.set_cons_succ]
        apply mixF 5 (by kernel_rfl) (by rfl) (by rfl)
        · (intro w' hx; go_simp <;> with_reducible rfl)
        simp only [Act.put, List.setIfInBounds_toArray, List.set_cons_zero, List.set_cons_succ]
        apply mixF 6 (by kernel_rfl) (by rfl) (by rfl)
        · (intro w' hx; go_simp <;> with_reducible rfl)
        simp only [Act.put, List.setIfInBounds_toArray, List.set_cons_zero, List.set_cons_succ]
        apply mixF 7 (by kernel_rfl) (by rfl) (by rfl)
        · (intro w' hx; go_simp <;> with_reducible rfl)
        simp only [Act.put, List.setIfInBounds_toArray, List.set_cons_zero, List.set_cons_succ]
        apply mixF 8 (by kernel_rfl) (by rfl) (by rfl)
        · (intro w' hx; go_simp <;> with_reducible rfl)
        simp only [Act.put, List.setIfInBounds_toArray, List.set_cons_zero, List.set_cons_succ]
        apply mixF 9 (by kernel_rfl) (by rfl) (by rfl)
        · (intro w' hx; go_simp <;> with_reducible rfl)
        simp only [Act.put, List.setIfInBounds_toArray, List.set_cons_zero, List.set_cons_succ]
        apply mixF 10 (by kernel_rfl) (by rfl) (by rfl)
        · (intro w' hx; go_simp <;> with_reducible rfl)
        simp only [Act.put, List.setIfInBounds_toArray, List.set_cons_zero, List.set_cons_succ]
        apply mixF 11 (by kernel_rfl) (by rfl) (by rfl)
        · (intro w' hx; go_simp <;> with_reducible rfl)
        simp only [Act.put, List.setIfInBounds_toArray, List.set_cons_zero, List.set_cons_succ]
        refine mixFskip 12 (by kernel_rfl) (by rfl) (by rfl) ?_
        simp only [Act.put, List.setIfInBounds_toArray, List.set_cons_zero, List.set_cons_succ]
        refine mixFskip 13 (by kernel_rfl) (by rfl) (by rfl) ?_
        simp only [Act.put, List.setIfInBounds_toArray, List.set_cons_zero, List.set_cons_succ]
        refine mixFskip 14 (by kernel_rfl) (by rfl) (by rfl) ?_
        simp only [Act.put, List.setIfInBounds_toArray, List.set_cons_zero, List.set_cons_succ]
        refine mixFskip 15 (by kernel_rfl) (by rfl) (by rfl) ?_
        simp only [Act.put, List.setIfInBounds_toArray, List.set_cons_zero, List.set_cons_succ]
        refine mixFskip 16 (by kernel_rfl) (by rfl) (by rfl) ?_
        simp only [Act.put, List.setIfInBounds_toArray, List.set_cons_zero, List.set_cons_succ]
        refine mixFskip 17 (by kernel_rfl) (by rfl) (by rfl) ?_
        simp only [Act.put, List.setIfInBounds_toArray, List.set_cons_zero, List.set_cons_succ]
        refine mixFskip 18 (by kernel_rfl) (by rfl) (by rfl) ?_
        simp only [Act.put, List.setIfInBounds_toArray, List.set_cons_zero, List.set_cons_succ]
        refine mixFskip 19 (by kernel_rfl) (by rfl) (by rfl) ?_
        simp only [Act.put, List.setIfInBounds_toArray, List.set_cons_zero, List.set_cons_succ]
        refine mixFskip 20 (by kernel_rfl) (by rfl) (by rfl) ?_
        simp only [Act.put, List.setIfInBounds_toArray, List.set_cons_zero, List.set_cons_succ]
        apply mixF 21 (by kernel_rfl) (by rfl) (by rfl)
        · (intro w' hx; go_simp <;> with_reducible rfl)
        simp only [Act.put, List.setIfInBounds_toArray, List.set_cons_zero, List.set_cons_succ]
        refine mixEnd (by kernel_rfl) ?_
        go_wp2_with fail
        have hzd := hd.size
        refine (read_w (k := k) _ (Sl.below hb (hd.mono hzW)) (by omega)).mono ?_
        rintro e w2 ⟨v, q, rfl, hq1, ⟨A3, c3, rfl, own3⟩, he7⟩
        subst hq1
        have hd := ext_trans hd he7
        go_wp2_with fail
        obtain ⟨X, hX⟩ : ∃ X, X = w2.alloc (.cells #[.int .i64 (rRead l k).1.kind, .int .i64 (rRead l k).1.key, .int .i64 (rRead l k).1.ver, .slice A3 (rRead l k).1.data.length c3] 32) := ⟨_, rfl⟩
        rw [← hX]
        have b9 : Box X w2.heap.size 32 #[.int .i64 (rRead l k).1.kind, .int .i64 (rRead l k).1.key, .int .i64 (rRead l k).1.ver, .slice A3 (rRead l k).1.data.length c3] := by rw [hX]; exact Box.new _ _ _ rfl
        have heX : Ext w2 X := by rw [hX]; exact ext_alloc _ _
        have hd := ext_trans hd heX
        have own3 := own_ext own3 heX
        have hzX := hd.size
        clear hX
        refine (refRead_w (k := k) _ (Sl.below hb (hd.mono hzW)) (by omega) (by omega)).mono ?_
        rintro e w3 ⟨v', q', rfl, hq2, ⟨A4, c4, rfl, own4⟩, he8⟩
        subst hq2
        have hd := ext_trans hd he8
        have b9 := b9.ext he8
        have own3 := own_ext own3 he8
        obtain ⟨m0, m1, m2, m3⟩ := b9.cells4
        have hlt9 := b9.lt
        have hs := Lib.hid (rSame_self (rRead l k).1)
        go_wp2_with fail
        refine (refSame_w (r := (rRead l k).1) (s := (rRead l k).1) _ (Sl.alloc (Sl.of_own own3) (Nat.le_refl _) _) (Sl.alloc (Sl.of_own own4) (Nat.le_refl _) _) (by simp) (by simp)).mono ?_
        rintro e w5 ⟨rfl, he9⟩
        rw [hs.out]
        go_wp2
        go_ret
        exact ⟨rfl, hwW.trans ((hd.mono hzW).trans (((ext_alloc _ _).mono (by have := hd.size; omega)).trans (he9.mono (by have := hd.size; simp; omega))))⟩
  · have qx : (x == 0) = false := by simpa using hx0
    refine wp_region_ext 22 [0, 2, 3, 4, 5, 6, 7, 8, 9, 10, 11, 12, 13, 14, 15, 16, 17, 18, 19, 20, 21] false rfl (by kernel_rfl) (by kernel_rfl) ?_
    have hd := hd.drew
    apply mixF 0 (by kernel_rfl) (by rfl) (by rfl)
    · (intro w' hx; obtain ⟨q0, q1, q2, q3⟩ := (bp.ext (ext_trans hd hx)).cells4; go_simp <;> with_reducible rfl)
    simp only [Act.put, List.setIfInBounds_toArray, List.set_cons_zero, List.set_cons_succ]
    refine mixS 1 (by kernel_rfl) (by kernel_rfl) (by rfl) (by rfl) (fun K hK => ?_)
    go_wp2_with (go_at_call 38; refine (refWrong_w (r := r) _ (Sl.below hp (hd.mono hzW))).mono ?_; rintro e w1 ⟨rfl, he4⟩; rw [hx2])
    refine hK.out _ _ (he4) ?_
    clear hK K
    try simp only [Act.put, List.setIfInBounds_toArray, List.set_cons_zero, List.set_cons_succ]
    have hd := ext_trans hd he4
    apply mixF 2 (by kernel_rfl) (by rfl) (by rfl)
    · (intro w' hx; go_simp <;> with_reducible rfl)
    simp only [Act.put, List.setIfInBounds_toArray, List.set_cons_zero, List.set_cons_succ]
    apply mixF 3 (by kernel_rfl) (by rfl) (by rfl)
    · (intro w' hx; go_simp <;> with_reducible rfl)
    simp only [Act.put, List.setIfInBounds_toArray, List.set_cons_zero, List.set_cons_succ]
    refine mixFskip 4 (by kernel_rfl) (by rfl) (by rfl) ?_
    simp only [Act.put, List.setIfInBounds_toArray, List.set_cons_zero, List.set_cons_succ]
    refine mixFskip 5 (by kernel_rfl) (by rfl) (by rfl) ?_
    simp only [Act.put, List.setIfInBounds_toArray, List.set_cons_zero, List.set_cons_succ]
    apply mixF 6 (by kernel_rfl) (by rfl) (by rfl)
    · (intro w' hx; go_simp <;> with_reducible rfl)
    simp only [Act.put, List.setIfInBounds_toArray, List.set_cons_zero, List.set_cons_succ]
    apply mixF 7 (by kernel_rfl) (by rfl) (by rfl)
    · (intro w' hx; go_simp <;> with_reducible rfl)
    simp only [Act.put, List.setIfInBounds_toArray, List.set_cons_zero, List.set_cons_succ]
    refine mixFskip 8 (by kernel_rfl) (by rfl) (by rfl) ?_
    simp only [Act.put, List.setIfInBounds_toArray, List.set_cons_zero, List.set_cons_succ]
    refine mixFskip 9 (by kernel_rfl) (by rfl) (by rfl) ?_
    simp only [Act.put, List.setIfInBounds_toArray, List.set_cons_zero, List.set_cons_succ]
    apply mixF 10 (by kernel_rfl) (by rfl) (by rfl)
    · (intro w' hx; go_simp <;> with_reducible rfl)
    simp only [Act.put, List.setIfInBounds_toArray, List.set_cons_zero, List.set_cons_succ]
    apply mixF 11 (by kernel_rfl) (by rfl) (by rfl)
    · (intro w' hx; go_simp <;> with_reducible rfl)
    simp only [Act.put, List.setIfInBounds_toArray, List.set_cons_zero, List.set_cons_succ]
    refine mixFskip 12 (by kernel_rfl) (by rfl) (by rfl) ?_
    simp only [Act.put, List.setIfInBounds_toArray, List.set_cons_zero, List.set_cons_succ]
    refine mixFskip 13 (by kernel_rfl) (by rfl) (by rfl) ?_
    simp only [Act.put, List.setIfInBounds_toArray, List.set_cons_zero, List.set_cons_succ]
    refine mixFskip 14 (by kernel_rfl) (by rfl) (by rfl) ?_
    simp only [Act.put, List.setIfInBounds_toArray, List.set_cons_zero, List.set_cons_succ]
    refine mixFskip 15 (by kernel_rfl) (by rfl) (by rfl) ?_
    simp only [Act.put, List.setIfInBounds_toArray, List.set_cons_zero, List.set_cons_succ]
    refine mixFskip 16 (by kernel_rfl) (by rfl) (by rfl) ?_
    simp only [Act.put, List.setIfInBounds_toArray, List.set_cons_zero, List.set_cons_succ]
    refine mixFskip 17 (by kernel_rfl) (by rfl) (by rfl) ?_
    simp only [Act.put, List.setIfInBounds_toArray, List.set_cons_zero, List.set_cons_succ]
    refine mixFskip 18 (by kernel_rfl) (by rfl) (by rfl) ?_
    simp only [Act.put, List.setIfInBounds_toArray, List.set_cons_zero, List.set_cons_succ]
    refine mixFskip 19 (by kernel_rfl) (by rfl) (by rfl) ?_
    simp only [Act.put, List.setIfInBounds_toArray, List.set_cons_zero, List.set_cons_succ]
    refine mixFskip 20 (by kernel_rfl) (by rfl) (by rfl) ?_
    simp only [Act.put, List.setIfInBounds_toArray, List.set_cons_zero, List.set_cons_succ]
    apply mixF 21 (by kernel_rfl) (by rfl) (by rfl)
    · (intro w' hx; go_simp <;> with_reducible rfl)
    simp only [Act.put, List.setIfInBounds_toArray, List.set_cons_zero, List.set_cons_succ]
    refine mixEnd (by kernel_rfl) ?_
    go_wp2_with fail
    have hzd := hd.size
    refine (read_w (k := k) _ (Sl.below hb (hd.mono hzW)) (by omega)).mono ?_
    rintro e w2 ⟨v, q, rfl, hq1, ⟨A3, c3, rfl, own3⟩, he7⟩
    subst hq1
    have hd := ext_trans hd he7
    go_wp2_with fail
    obtain ⟨X, hX⟩ : ∃ X, X = w2.alloc (.cells #[.int .i64 (rRead l k).1.kind, .int .i64 (rRead l k).1.key, .int .i64 (rRead l k).1.ver, .slice A3 (rRead l k).1.data.length c3] 32) := ⟨_, rfl⟩
    rw [← hX]
    have b9 : Box X w2.heap.size 32 #[.int .i64 (rRead l k).1.kind, .int .i64 (rRead l k).1.key, .int .i64 (rRead l k).1.ver, .slice A3 (rRead l k).1.data.length c3] := by rw [hX]; exact Box.new _ _ _ rfl
    have heX : Ext w2 X := by rw [hX]; exact ext_alloc _ _
    have hd := ext_trans hd heX
    have own3 := own_ext own3 heX
    have hzX := hd.size
    clear hX
    refine (refRead_w (k := k) _ (Sl.below hb (hd.mono hzW)) (by omega) (by omega)).mono ?_
    rintro e w3 ⟨v', q', rfl, hq2, ⟨A4, c4, rfl, own4⟩, he8⟩
    subst hq2
    have hd := ext_trans hd he8
    have b9 := b9.ext he8
    have own3 := own_ext own3 he8
    obtain ⟨m0, m1, m2, m3⟩ := b9.cells4
    have hlt9 := b9.lt
    have hs := Lib.hid (rSame_self (rRead l k).1)
    go_wp2_with fail
    refine (refSame_w (r := (rRead l k).1) (s := (rRead l k).1) _ (Sl.alloc (Sl.of_own own3) (Nat.le_refl _) _) (Sl.alloc (Sl.of_own own4) (Nat.le_refl _) _) (by simp) (by simp)).mono ?_
    rintro e w5 ⟨rfl, he9⟩
    rw [hs.out]
    go_wp2
    go_ret
    exact ⟨rfl, hwW.trans ((hd.mono hzW).trans (((ext_alloc _ _).mono (by have := hd.size; omega)).trans (he9.mono (by have := hd.size; simp; omega))))⟩

end Go.Proofs.Ytnganglmpcbcbaa
