/- The law TextUnlike: two right deeds have the same text just where they are the same. -/
import Derived.Test.YtdmnmfnmaccmoaaDoorTx9
namespace Go.Proofs.YtdmnmfnmaccmoaaDoor
open Go Go.RowKit

set_option maxRecDepth 100000 in
set_option maxHeartbeats 4000000 in
theorem textUnlike_law (W : World) (hV : VarT W) {v v' : Value} {d x : Ded} (h : DedV W W.heap.size v d) (h' : DedV W W.heap.size v' x) :
  Calls Tryd.prog 5 #[v, v'] W fun e w' => e = .returned (.bool true) ∧ Below W.heap.size W w' := by
 obtain ⟨A, n, c, rfl, h1, h2⟩ := h.at_
 obtain ⟨A', n', c', rfl, h1', h2'⟩ := h'.at_
 have hE0 : Ext W ((W.alloc (.cells #[.int .i64 d.kind, .int .i64 d.key, .int .i64 d.n, .slice A n c] 24)).alloc (.cells #[.int .i64 x.kind, .int .i64 x.key, .int .i64 x.n, .slice A' n' c'] 24)) := (ext_alloc _ _).alloc (by simp) _
 go_enter Tryd.func5, Tryd.ntmps5
 go_wp2_with (go_at_call 12; refine (alive7_w (hV.ext hE0)).mono ?_; refine Lib.hid ?_)
 rintro e w2 ⟨rfl, he⟩
 have hE := ext_trans hE0 he
 have bA := ((Box.new W #[.int .i64 d.kind, .int .i64 d.key, .int .i64 d.n, .slice A n c] 24 rfl).alloc (.cells #[.int .i64 x.kind, .int .i64 x.key, .int .i64 x.n, .slice A' n' c'] 24)).ext he
 have bB := (Box.new (W.alloc (.cells #[.int .i64 d.kind, .int .i64 d.key, .int .i64 d.n, .slice A n c] 24)) #[.int .i64 x.kind, .int .i64 x.key, .int .i64 x.n, .slice A' n' c'] 24 rfl).ext he
 rw [size_alloc] at bB
 have hd := h.ext hE
 have hy := h'.ext hE
 have hV := hV.ext hE
 clear hE0 he h1 h2 h1' h2'
 go_upto_region 3 with (fail)
 have he : Ext w2 w2.drew := (Below.refl _ _).drew
 have hE := ext_trans hE he
 have hV := hV.ext he
 have bA := bA.ext he
 have bB := bB.ext he
 have hd := hd.ext he
 have hy := hy.ext he
 clear he
 by_cases z : mWrong d = 0
 ·by_cases z' : mWrong x = 0
  ·refine wp_region_ext 20 [0, 2, 3, 4, 6, 7, 8, 9, 11, 13, 14, 15, 17, 18, 19] false rfl (by kernel_rfl) (by kernel_rfl) ?_
   obtain ⟨pd, hpd⟩ : ∃ b : ByteArray, b = ⟨(tPrint d).toArray⟩ := ⟨_, rfl⟩
   obtain ⟨px, hpx⟩ : ∃ b : ByteArray, b = ⟨(tPrint x).toArray⟩ := ⟨_, rfl⟩
   obtain ⟨k, hk⟩ : ∃ k, k = dEq d x := ⟨_, rfl⟩
   have q : (pd.toList == px.toList) = k := by
    rw [hpd, hpx, listOf, listOf, hk]
    by_cases e : d = x
    ·rw [e]
     simp [(dEq_iff x x).2 rfl]
    ·have e1 : dEq d x = false := by
      cases hh : dEq d x with
      | false => rfl
      | true => exact absurd ((dEq_iff d x).1 hh) e
     rw [e1]
     simpa using fun h => e (print_inj z z' h)
   have P1 := fun w hV hd => print_v (w := w) (base := W.heap.size) (dv := .agg #[.int .i64 d.kind, .int .i64 d.key, .int .i64 d.n, .slice A n c]) (d := d) hd z hV
   have P2 := fun w hV hd => print_v (w := w) (base := W.heap.size) (dv := .agg #[.int .i64 x.kind, .int .i64 x.key, .int .i64 x.n, .slice A' n' c']) (d := x) hd z' hV
   have P3 := fun w hd hy => sameDeed_v (w := w) (base := W.heap.size) (base' := W.heap.size) (v := .agg #[.int .i64 d.kind, .int .i64 d.key, .int .i64 d.n, .slice A n c]) (v' := .agg #[.int .i64 x.kind, .int .i64 x.key, .int .i64 x.n, .slice A' n' c']) (d := d) (x := x) hd hy
   have Z1 := fun w hd => rWrongDeed_v (w := w) (base := W.heap.size) (dv := .agg #[.int .i64 d.kind, .int .i64 d.key, .int .i64 d.n, .slice A n c]) (d := d) hd
   have Z2 := fun w hd => rWrongDeed_v (w := w) (base := W.heap.size) (dv := .agg #[.int .i64 x.kind, .int .i64 x.key, .int .i64 x.n, .slice A' n' c']) (d := x) hd
   rw [← hpd] at P1
   rw [← hpx] at P2
   rw [← hk] at P3
   rw [z] at Z1
   rw [z'] at Z2
   clear hpd hpx hk z z'
   apply mixF 0 (by kernel_rfl) (by rfl) (by rfl)
   ·(intro w' hx; have r := (bA.ext hx).c4; go_simp <;> with_reducible rfl)
   simp only [pA, pB, pC, pD]
   refine mixS 1 (by kernel_rfl) (by kernel_rfl) (by rfl) (by rfl) (fun K hK => ?_)
   go_wp2_with (go_at_call 9; refine (Z1 _ hd).mono ?_; rintro e w3 ⟨rfl, he⟩)
   refine hK.out _ _ he ?_
   clear hK K
   try simp only [pA, pB, pC, pD]
   have hE := ext_trans hE he
   have hV := hV.ext he
   have bA := bA.ext he
   have bB := bB.ext he
   have hd := hd.ext he
   have hy := hy.ext he
   clear he
   apply mixF 2 (by kernel_rfl) (by rfl) (by rfl)
   ·(intro w' hx; go_simp <;> with_reducible rfl)
   simp only [pA, pB, pC, pD]
   apply mixF 3 (by kernel_rfl) (by rfl) (by rfl)
   ·(intro w' hx; go_simp <;> with_reducible rfl)
   simp only [pA, pB, pC, pD]
   apply mixF 4 (by kernel_rfl) (by rfl) (by rfl)
   ·(intro w' hx; have r := (bB.ext hx).c4; go_simp <;> with_reducible rfl)
   simp only [pA, pB, pC, pD]
   refine mixS 5 (by kernel_rfl) (by kernel_rfl) (by rfl) (by rfl) (fun K hK => ?_)
   go_wp2_with (go_at_call 9; refine (Z2 _ hy).mono ?_; rintro e w4 ⟨rfl, he⟩)
   refine hK.out _ _ he ?_
   clear hK K
   try simp only [pA, pB, pC, pD]
   have hE := ext_trans hE he
   have hV := hV.ext he
   have bA := bA.ext he
   have bB := bB.ext he
   have hd := hd.ext he
   have hy := hy.ext he
   clear he
   apply mixF 6 (by kernel_rfl) (by rfl) (by rfl)
   ·(intro w' hx; go_simp <;> with_reducible rfl)
   simp only [pA, pB, pC, pD]
   apply mixF 7 (by kernel_rfl) (by rfl) (by rfl)
   ·(intro w' hx; go_simp <;> with_reducible rfl)
   simp only [pA, pB, pC, pD]
   apply mixF 8 (by kernel_rfl) (by rfl) (by rfl)
   ·(intro w' hx; go_simp <;> with_reducible rfl)
   simp only [pA, pB, pC, pD]
   apply mixF 9 (by kernel_rfl) (by rfl) (by rfl)
   ·(intro w' hx; have r := (bA.ext hx).c4; go_simp <;> with_reducible rfl)
   simp only [pA, pB, pC, pD]
   apply mixF 11 (by kernel_rfl) (by rfl) (by rfl)
   ·(intro w' hx; have r := (bB.ext hx).c4; go_simp <;> with_reducible rfl)
   simp only [pA, pB, pC, pD]
   apply mixF 14 (by kernel_rfl) (by rfl) (by rfl)
   ·(intro w' hx; have r := (bA.ext hx).c4; go_simp <;> with_reducible rfl)
   simp only [pA, pB, pC, pD]
   apply mixF 15 (by kernel_rfl) (by rfl) (by rfl)
   ·(intro w' hx; have r := (bB.ext hx).c4; go_simp <;> with_reducible rfl)
   simp only [pA, pB, pC, pD]
   refine mixS 10 (by kernel_rfl) (by kernel_rfl) (by rfl) (by rfl) (fun K hK => ?_)
   go_wp2_with (go_at_call 10; refine (P1 _ hV hd).mono ?_; rintro e w5 ⟨rfl, he⟩)
   refine hK.out _ _ he ?_
   clear hK K
   try simp only [pA, pB, pC, pD]
   have hE := ext_trans hE he
   have hV := hV.ext he
   have bA := bA.ext he
   have bB := bB.ext he
   have hd := hd.ext he
   have hy := hy.ext he
   clear he
   refine mixS 12 (by kernel_rfl) (by kernel_rfl) (by rfl) (by rfl) (fun K hK => ?_)
   go_wp2_with (go_at_call 10; refine (P2 _ hV hy).mono ?_; rintro e w6 ⟨rfl, he⟩)
   refine hK.out _ _ he ?_
   clear hK K
   try simp only [pA, pB, pC, pD]
   have hE := ext_trans hE he
   have hV := hV.ext he
   have bA := bA.ext he
   have bB := bB.ext he
   have hd := hd.ext he
   have hy := hy.ext he
   clear he
   apply mixF 13 (by kernel_rfl) (by rfl) (by rfl)
   ·(intro w' hx; go_simp <;> with_reducible rfl)
   simp only [pA, pB, pC, pD]
   refine mixS 16 (by kernel_rfl) (by kernel_rfl) (by rfl) (by rfl) (fun K hK => ?_)
   go_wp2_with (go_at_call 8; refine (P3 _ hd hy).mono ?_; rintro e w7 ⟨rfl, he⟩)
   refine hK.out _ _ he ?_
   clear hK K
   try simp only [pA, pB, pC, pD]
   have hE := ext_trans hE he
   have hV := hV.ext he
   have bA := bA.ext he
   have bB := bB.ext he
   have hd := hd.ext he
   have hy := hy.ext he
   clear he
   apply mixF 17 (by kernel_rfl) (by rfl) (by rfl)
   ·(intro w' hx; go_simp <;> with_reducible rfl)
   simp only [pA, pB, pC, pD]
   apply mixF 18 (by kernel_rfl) (by rfl) (by rfl)
   ·(intro w' hx; go_simp <;> with_reducible rfl)
   simp only [pA, pB, pC, pD]
   apply mixF 19 (by kernel_rfl) (by rfl) (by rfl)
   ·(intro w' hx; go_simp <;> with_reducible rfl)
   simp only [pA, pB, pC, pD]
   refine mixEnd (by kernel_rfl) ?_
   go_wp2_with fail
   go_ret
   exact ⟨rfl, hE⟩
  ·refine wp_region_ext 20 [0, 2, 3, 4, 6, 7, 8, 9, 10, 11, 12, 13, 14, 15, 16, 17, 18, 19] false rfl (by kernel_rfl) (by kernel_rfl) ?_
   have Z1 := fun w hd => rWrongDeed_v (w := w) (base := W.heap.size) (dv := .agg #[.int .i64 d.kind, .int .i64 d.key, .int .i64 d.n, .slice A n c]) (d := d) hd
   have Z2 := fun w hd => rWrongDeed_v (w := w) (base := W.heap.size) (dv := .agg #[.int .i64 x.kind, .int .i64 x.key, .int .i64 x.n, .slice A' n' c']) (d := x) hd
   rw [z] at Z1
   obtain ⟨q, hq⟩ : ∃ q, q = mWrong x := ⟨_, rfl⟩
   rw [← hq] at z' Z2
   have zq : (q != 0) = true := by simpa using z'
   clear hq z z'
   apply mixF 0 (by kernel_rfl) (by rfl) (by rfl)
   ·(intro w' hx; have r := (bA.ext hx).c4; go_simp <;> with_reducible rfl)
   simp only [pA, pB, pC, pD]
   refine mixS 1 (by kernel_rfl) (by kernel_rfl) (by rfl) (by rfl) (fun K hK => ?_)
   go_wp2_with (go_at_call 9; refine (Z1 _ hd).mono ?_; rintro e w3 ⟨rfl, he⟩)
   refine hK.out _ _ he ?_
   clear hK K
   try simp only [pA, pB, pC, pD]
   have hE := ext_trans hE he
   have hV := hV.ext he
   have bA := bA.ext he
   have bB := bB.ext he
   have hd := hd.ext he
   have hy := hy.ext he
   clear he
   apply mixF 2 (by kernel_rfl) (by rfl) (by rfl)
   ·(intro w' hx; go_simp <;> with_reducible rfl)
   simp only [pA, pB, pC, pD]
   apply mixF 3 (by kernel_rfl) (by rfl) (by rfl)
   ·(intro w' hx; go_simp <;> with_reducible rfl)
   simp only [pA, pB, pC, pD]
   apply mixF 4 (by kernel_rfl) (by rfl) (by rfl)
   ·(intro w' hx; have r := (bB.ext hx).c4; go_simp <;> with_reducible rfl)
   simp only [pA, pB, pC, pD]
   refine mixS 5 (by kernel_rfl) (by kernel_rfl) (by rfl) (by rfl) (fun K hK => ?_)
   go_wp2_with (go_at_call 9; refine (Z2 _ hy).mono ?_; rintro e w4 ⟨rfl, he⟩)
   refine hK.out _ _ he ?_
   clear hK K
   try simp only [pA, pB, pC, pD]
   have hE := ext_trans hE he
   have hV := hV.ext he
   have bA := bA.ext he
   have bB := bB.ext he
   have hd := hd.ext he
   have hy := hy.ext he
   clear he
   apply mixF 6 (by kernel_rfl) (by rfl) (by rfl)
   ·(intro w' hx; go_simp <;> with_reducible rfl)
   simp only [pA, pB, pC, pD]
   apply mixF 7 (by kernel_rfl) (by rfl) (by rfl)
   ·(intro w' hx; go_simp <;> with_reducible rfl)
   simp only [pA, pB, pC, pD]
   apply mixF 8 (by kernel_rfl) (by rfl) (by rfl)
   ·(intro w' hx; go_simp <;> with_reducible rfl)
   simp only [pA, pB, pC, pD]
   refine mixFskip 9 (by kernel_rfl) (by rfl) (by rfl) ?_
   simp only [pA, pB, pC, pD]
   refine mixFskip 10 (by kernel_rfl) (by rfl) (by rfl) ?_
   simp only [pA, pB, pC, pD]
   refine mixFskip 11 (by kernel_rfl) (by rfl) (by rfl) ?_
   simp only [pA, pB, pC, pD]
   refine mixFskip 12 (by kernel_rfl) (by rfl) (by rfl) ?_
   simp only [pA, pB, pC, pD]
   refine mixFskip 13 (by kernel_rfl) (by rfl) (by rfl) ?_
   simp only [pA, pB, pC, pD]
   refine mixFskip 14 (by kernel_rfl) (by rfl) (by rfl) ?_
   simp only [pA, pB, pC, pD]
   refine mixFskip 15 (by kernel_rfl) (by rfl) (by rfl) ?_
   simp only [pA, pB, pC, pD]
   refine mixFskip 16 (by kernel_rfl) (by rfl) (by rfl) ?_
   simp only [pA, pB, pC, pD]
   refine mixFskip 17 (by kernel_rfl) (by rfl) (by rfl) ?_
   simp only [pA, pB, pC, pD]
   apply mixF 18 (by kernel_rfl) (by rfl) (by rfl)
   ·(intro w' hx; go_simp <;> with_reducible rfl)
   simp only [pA, pB, pC, pD]
   apply mixF 19 (by kernel_rfl) (by rfl) (by rfl)
   ·(intro w' hx; go_simp <;> with_reducible rfl)
   simp only [pA, pB, pC, pD]
   refine mixEnd (by kernel_rfl) ?_
   go_wp2_with fail
   go_ret
   exact ⟨rfl, hE⟩
 ·refine wp_region_ext 20 [0, 2, 3, 4, 5, 6, 7, 8, 9, 10, 11, 12, 13, 14, 15, 16, 17, 18, 19] false rfl (by kernel_rfl) (by kernel_rfl) ?_
  have Z1 := fun w hd => rWrongDeed_v (w := w) (base := W.heap.size) (dv := .agg #[.int .i64 d.kind, .int .i64 d.key, .int .i64 d.n, .slice A n c]) (d := d) hd
  obtain ⟨q, hq⟩ : ∃ q, q = mWrong d := ⟨_, rfl⟩
  rw [← hq] at z Z1
  have zq : (q != 0) = true := by simpa using z
  clear hq z
  apply mixF 0 (by kernel_rfl) (by rfl) (by rfl)
  ·(intro w' hx; have r := (bA.ext hx).c4; go_simp <;> with_reducible rfl)
  simp only [pA, pB, pC, pD]
  refine mixS 1 (by kernel_rfl) (by kernel_rfl) (by rfl) (by rfl) (fun K hK => ?_)
  go_wp2_with (go_at_call 9; refine (Z1 _ hd).mono ?_; rintro e w3 ⟨rfl, he⟩)
  refine hK.out _ _ he ?_
  clear hK K
  try simp only [pA, pB, pC, pD]
  have hE := ext_trans hE he
  have hV := hV.ext he
  have bA := bA.ext he
  have bB := bB.ext he
  have hd := hd.ext he
  have hy := hy.ext he
  clear he
  apply mixF 2 (by kernel_rfl) (by rfl) (by rfl)
  ·(intro w' hx; go_simp <;> with_reducible rfl)
  simp only [pA, pB, pC, pD]
  apply mixF 3 (by kernel_rfl) (by rfl) (by rfl)
  ·(intro w' hx; go_simp <;> with_reducible rfl)
  simp only [pA, pB, pC, pD]
  refine mixFskip 4 (by kernel_rfl) (by rfl) (by rfl) ?_
  simp only [pA, pB, pC, pD]
  refine mixFskip 5 (by kernel_rfl) (by rfl) (by rfl) ?_
  simp only [pA, pB, pC, pD]
  refine mixFskip 6 (by kernel_rfl) (by rfl) (by rfl) ?_
  simp only [pA, pB, pC, pD]
  apply mixF 7 (by kernel_rfl) (by rfl) (by rfl)
  ·(intro w' hx; go_simp <;> with_reducible rfl)
  simp only [pA, pB, pC, pD]
  apply mixF 8 (by kernel_rfl) (by rfl) (by rfl)
  ·(intro w' hx; go_simp <;> with_reducible rfl)
  simp only [pA, pB, pC, pD]
  refine mixFskip 9 (by kernel_rfl) (by rfl) (by rfl) ?_
  simp only [pA, pB, pC, pD]
  refine mixFskip 10 (by kernel_rfl) (by rfl) (by rfl) ?_
  simp only [pA, pB, pC, pD]
  refine mixFskip 11 (by kernel_rfl) (by rfl) (by rfl) ?_
  simp only [pA, pB, pC, pD]
  refine mixFskip 12 (by kernel_rfl) (by rfl) (by rfl) ?_
  simp only [pA, pB, pC, pD]
  refine mixFskip 13 (by kernel_rfl) (by rfl) (by rfl) ?_
  simp only [pA, pB, pC, pD]
  refine mixFskip 14 (by kernel_rfl) (by rfl) (by rfl) ?_
  simp only [pA, pB, pC, pD]
  refine mixFskip 15 (by kernel_rfl) (by rfl) (by rfl) ?_
  simp only [pA, pB, pC, pD]
  refine mixFskip 16 (by kernel_rfl) (by rfl) (by rfl) ?_
  simp only [pA, pB, pC, pD]
  refine mixFskip 17 (by kernel_rfl) (by rfl) (by rfl) ?_
  simp only [pA, pB, pC, pD]
  apply mixF 18 (by kernel_rfl) (by rfl) (by rfl)
  ·(intro w' hx; go_simp <;> with_reducible rfl)
  simp only [pA, pB, pC, pD]
  apply mixF 19 (by kernel_rfl) (by rfl) (by rfl)
  ·(intro w' hx; go_simp <;> with_reducible rfl)
  simp only [pA, pB, pC, pD]
  refine mixEnd (by kernel_rfl) ?_
  go_wp2_with fail
  go_ret
  exact ⟨rfl, hE⟩
end Go.Proofs.YtdmnmfnmaccmoaaDoor

