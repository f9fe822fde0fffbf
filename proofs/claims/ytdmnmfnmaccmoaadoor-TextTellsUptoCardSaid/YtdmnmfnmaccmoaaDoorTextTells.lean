/- The law TextTells: what a right deed's text is, and what any text's deed is. -/
import Derived.Test.YtdmnmfnmaccmoaaDoorTx12
import Derived.Test.YtdmnmfnmaccmoaaDoorG1
namespace Go.Proofs.YtdmnmfnmaccmoaaDoor
open Go Go.RowKit
theorem mixSskip {P : Program} {Q : Exit → Act → World → Prop} {md : Region.Mode} {t : Bool} {X : World → World → Prop} {l : List Oper} {Fs : List Nat} {f : Nat} {listed : Array Bool} {a : Act} {w : World} (i : Nat) {o : Oper}
  (hp : pickF md l.toArray t Fs listed = none) (hr : Region.ready md l.toArray listed = [i]) (ho : l[i]? = some o)
  (hw : Region.wanted o (yielded l.toArray a.tmps) = false) (hX : X w w)
  (h : wpTree P md l.toArray Q X t Fs f (listed.setIfInBounds i true) (a.put o.dst undef) w) : wpTree P md l.toArray Q X t Fs (f + 1) listed a w := by
 unfold wpTree
 rw [hp]
 refine ⟨fun h0 => (by rw [hr] at h0; cases h0), fun j hj => ?_⟩
 rw [hr] at hj
 obtain rfl : j = i := by simpa using hj
 have ho' : l.toArray[j]? = some o := by simpa using ho
 unfold wpOp
 simp only [ho']
 rw [if_neg (by rw [hw]; simp)]
 exact ⟨.inr hX, h⟩
set_option maxRecDepth 100000 in
set_option maxHeartbeats 4000000 in
theorem textTells_law (W : World) (hV : VarT W) {l : List UInt8} (hl : l.length ≤ 1000000000) {v : Value} {d : Ded} (h : DedV W W.heap.size v d) :
  Calls Tryd.prog 3 #[.string ⟨l.toArray⟩, v] W fun e w' => e = .returned (.bool true) ∧ Below W.heap.size W w' := by
 have hP := fun w hV => parse_v l hl (w := w) hV
 have hR := fun w hV => rParse_v l hl (w := w) hV
 obtain ⟨t, ht⟩ : ∃ t : ByteArray, t = ⟨l.toArray⟩ := ⟨_, rfl⟩
 rw [← ht] at hP hR ⊢
 clear ht
 obtain ⟨y, hy⟩ : ∃ y, y = tParse l := ⟨_, rfl⟩
 rw [← hy] at hP hR
 clear hy
 obtain ⟨A0, n0, c0, rfl, _, _⟩ := h.at_
 have hxE := ext_alloc W (.cells #[.int .i64 d.kind, .int .i64 d.key, .int .i64 d.n, .slice A0 n0 c0] 24)
 have b3 := Box.new W #[.int .i64 d.kind, .int .i64 d.key, .int .i64 d.n, .slice A0 n0 c0] 24 rfl
 obtain ⟨W1, hW1⟩ : ∃ x, x = W.alloc (.cells #[.int .i64 d.kind, .int .i64 d.key, .int .i64 d.n, .slice A0 n0 c0] 24) := ⟨_, rfl⟩
 rw [← hW1] at hxE b3
 have hd := h.ext hxE
 have hV := hV.ext hxE
 go_enter Tryd.func3, Tryd.ntmps3
 go_wp2_with (go_at_call 6; rw [← hW1]; refine (hP _ hV).mono ?_; refine Lib.hid ?_)
 clear hW1
 rintro e w2 ⟨va, q, rfl, Hq, da, he⟩
 obtain ⟨A1, n1, c1, rfl, _, _⟩ := da.at_
 have hxE := ext_trans hxE he
 have b3 := b3.ext he
 have hd := hd.ext he
 have hV := hV.ext he
 clear he hP
 go_upto_region 2 with (fail)
 generalize hwn : World.alloc w2 _ = w3
 have he : Ext w2 w3 := by rw [← hwn]; exact ext_alloc _ _
 have b5 : Box w3 w2.heap.size 24 #[.int .i64 y.1.kind, .int .i64 y.1.key, .int .i64 y.1.n, .slice A1 n1 c1] := by rw [← hwn]; exact Box.new _ _ _ rfl
 clear hwn
 obtain ⟨g5, hg5⟩ : ∃ g, g = w2.heap.size := ⟨_, rfl⟩
 rw [← hg5] at b5 ⊢
 clear hg5
 have hxE := ext_trans hxE he
 have b3 := b3.ext he
 have hd := hd.ext he
 have hV := hV.ext he
 have da := da.ext he
 clear he
 go_wp2_with (go_at_call 7; refine (hR _ hV).mono ?_; refine Lib.hid ?_)
 rintro e w4 ⟨vb, q', rfl, Hq', db, he⟩
 obtain ⟨A2, n2, c2, rfl, _, _⟩ := db.at_
 have hxE := ext_trans hxE he
 have b3 := b3.ext he
 have hd := hd.ext he
 have hV := hV.ext he
 have da := da.ext he
 have b5 := b5.ext he
 clear he hR
 go_upto_region 3 with (fail)
 generalize hwn : World.alloc w4 _ = w5
 have he : Ext w4 w5 := by rw [← hwn]; exact ext_alloc _ _
 have b7 : Box w5 w4.heap.size 24 #[.int .i64 y.1.kind, .int .i64 y.1.key, .int .i64 y.1.n, .slice A2 n2 c2] := by rw [← hwn]; exact Box.new _ _ _ rfl
 clear hwn
 obtain ⟨g7, hg7⟩ : ∃ g, g = w4.heap.size := ⟨_, rfl⟩
 rw [← hg7] at b7 ⊢
 clear hg7
 have hxE := ext_trans hxE he
 have b3 := b3.ext he
 have hd := hd.ext he
 have hV := hV.ext he
 have da := da.ext he
 have b5 := b5.ext he
 have db := db.ext he
 clear he
 obtain rfl : q = q' := Hq.out.trans Hq'.out.symm
 clear Hq Hq'
 have hsd := sameDeed_v da db
 rw [(dEq_iff y.1 y.1).2 rfl] at hsd
 have qq : (q == q) = true := by simp
 have he : Ext w5 w5.drew := (Below.refl _ _).drew
 have hsd := (sameDeed_v (da.ext he) (db.ext he))
 rw [(dEq_iff y.1 y.1).2 rfl] at hsd
 clear da db
 have hxE := ext_trans hxE he
 have b3 := b3.ext he
 have hd := hd.ext he
 have hV := hV.ext he
 have b5 := b5.ext he
 have b7 := b7.ext he
 clear he
 refine wp_region_ext 21 [0, 1, 2, 3, 4, 5, 7, 8, 9, 11, 12, 13, 15, 17, 18, 19, 20] false rfl (by kernel_rfl) (by kernel_rfl) ?_
 generalize w5.drew = D at hxE b3 hd hV b5 b7 hsd ⊢
 apply mixF 0 (by kernel_rfl) (by rfl) (by rfl)
 ·(intro w' hx; go_simp <;> with_reducible rfl)
 simp only [pA, pB, pC, pD]
 apply mixF 1 (by kernel_rfl) (by rfl) (by rfl)
 ·(intro w' hx; go_simp <;> with_reducible rfl)
 simp only [pA, pB, pC, pD]
 apply mixF 2 (by kernel_rfl) (by rfl) (by rfl)
 ·(intro w' hx; go_simp <;> with_reducible rfl)
 simp only [pA, pB, pC, pD]
 apply mixF 3 (by kernel_rfl) (by rfl) (by rfl)
 ·(intro w' hx; go_simp <;> with_reducible rfl)
 simp only [pA, pB, pC, pD]
 apply mixF 4 (by kernel_rfl) (by rfl) (by rfl)
 ·(intro w' hx; obtain ⟨x0, x1, x2, x3⟩ := (b5.ext hx).c4; go_simp <;> with_reducible rfl)
 simp only [pA, pB, pC, pD]
 apply mixF 5 (by kernel_rfl) (by rfl) (by rfl)
 ·(intro w' hx; obtain ⟨x0, x1, x2, x3⟩ := (b7.ext hx).c4; go_simp <;> with_reducible rfl)
 simp only [pA, pB, pC, pD]
 refine mixS 6 (by kernel_rfl) (by kernel_rfl) (by rfl) (by rfl) (fun K hK => ?_)
 go_wp2_with (go_at_call 8; refine (hsd).mono ?_; rintro e w6 ⟨rfl, he⟩)
 refine hK.out _ _ (he) ?_
 clear hK K
 try simp only [pA, pB, pC, pD]
 have hxE := ext_trans hxE he
 have b3 := b3.ext he
 have hd := hd.ext he
 have hV := hV.ext he
 clear he b5 b7
 apply mixF 7 (by kernel_rfl) (by rfl) (by rfl)
 ·(intro w' hx; go_simp <;> with_reducible rfl)
 simp only [pA, pB, pC, pD]
 apply mixF 8 (by kernel_rfl) (by rfl) (by rfl)
 ·(intro w' hx; go_simp <;> with_reducible rfl)
 simp only [pA, pB, pC, pD]
 apply mixF 9 (by kernel_rfl) (by rfl) (by rfl)
 ·(intro w' hx; obtain ⟨x0, x1, x2, x3⟩ := (b3.ext hx).c4; go_simp <;> with_reducible rfl)
 simp only [pA, pB, pC, pD]
 refine mixS 10 (by kernel_rfl) (by kernel_rfl) (by rfl) (by rfl) (fun K hK => ?_)
 by_cases z : mWrong d = 0
 ·have hwr := rWrongDeed_v hd
  rw [z] at hwr
  go_wp2_with (go_at_call 9; refine (hwr).mono ?_; rintro e w7 ⟨rfl, he⟩)
  refine hK.out _ _ (he) ?_
  clear hK K
  try simp only [pA, pB, pC, pD]
  have hxE := ext_trans hxE he
  have b3 := b3.ext he
  have hd := hd.ext he
  have hV := hV.ext he
  clear he
  have hp1 := print_v hd z hV
  have hp2 := fun w (k : Ext w7 w) => rPrint_v (hd.ext k) z (hV.ext k)
  obtain ⟨pb, hpb⟩ : ∃ b : ByteArray, b = ⟨(tPrint d).toArray⟩ := ⟨_, rfl⟩
  rw [← hpb] at hp1 hp2
  have qp : (pb.toList == pb.toList) = true := by simp
  clear hpb z
  apply mixF 11 (by kernel_rfl) (by rfl) (by rfl)
  ·(intro w' hx; go_simp <;> with_reducible rfl)
  simp only [pA, pB, pC, pD]
  apply mixF 12 (by kernel_rfl) (by rfl) (by rfl)
  ·(intro w' hx; go_simp <;> with_reducible rfl)
  simp only [pA, pB, pC, pD]
  apply mixF 13 (by kernel_rfl) (by rfl) (by rfl)
  ·(intro w' hx; obtain ⟨x0, x1, x2, x3⟩ := (b3.ext hx).c4; go_simp <;> with_reducible rfl)
  simp only [pA, pB, pC, pD]
  apply mixF 15 (by kernel_rfl) (by rfl) (by rfl)
  ·(intro w' hx; obtain ⟨x0, x1, x2, x3⟩ := (b3.ext hx).c4; go_simp <;> with_reducible rfl)
  simp only [pA, pB, pC, pD]
  refine mixS 14 (by kernel_rfl) (by kernel_rfl) (by rfl) (by rfl) (fun K hK => ?_)
  go_wp2_with (go_at_call 10; refine (hp1).mono ?_; rintro e w8 ⟨rfl, he8⟩)
  refine hK.out _ _ (he8) ?_
  clear hK K
  try simp only [pA, pB, pC, pD]
  refine mixS 16 (by kernel_rfl) (by kernel_rfl) (by rfl) (by rfl) (fun K hK => ?_)
  go_wp2_with (go_at_call 11; refine (hp2 _ he8).mono ?_; rintro e w9 ⟨rfl, he9⟩)
  refine hK.out _ _ (he9) ?_
  clear hK K
  try simp only [pA, pB, pC, pD]
  apply mixF 17 (by kernel_rfl) (by rfl) (by rfl)
  ·(intro w' hx; go_simp <;> with_reducible rfl)
  simp only [pA, pB, pC, pD]
  apply mixF 18 (by kernel_rfl) (by rfl) (by rfl)
  ·(intro w' hx; go_simp <;> with_reducible rfl)
  simp only [pA, pB, pC, pD]
  apply mixF 19 (by kernel_rfl) (by rfl) (by rfl)
  ·(intro w' hx; go_simp <;> with_reducible rfl)
  simp only [pA, pB, pC, pD]
  apply mixF 20 (by kernel_rfl) (by rfl) (by rfl)
  ·(intro w' hx; go_simp <;> with_reducible rfl)
  simp only [pA, pB, pC, pD]
  refine mixEnd (by kernel_rfl) ?_
  go_wp2_with fail
  go_ret
  exact ⟨rfl, ext_trans hxE (ext_trans he8 he9)⟩
 ·have hwr := rWrongDeed_v hd
  obtain ⟨qw, hqw⟩ : ∃ x, x = mWrong d := ⟨_, rfl⟩
  rw [← hqw] at hwr z
  have zq : (qw != 0) = true := by simpa using z
  clear hqw z
  go_wp2_with (go_at_call 9; refine (hwr).mono ?_; rintro e w7 ⟨rfl, he⟩)
  refine hK.out _ _ (he) ?_
  clear hK K
  try simp only [pA, pB, pC, pD]
  have hxE := ext_trans hxE he
  have b3 := b3.ext he
  clear he
  apply mixF 11 (by kernel_rfl) (by rfl) (by rfl)
  ·(intro w' hx; go_simp <;> with_reducible rfl)
  simp only [pA, pB, pC, pD]
  apply mixF 12 (by kernel_rfl) (by rfl) (by rfl)
  ·(intro w' hx; go_simp <;> with_reducible rfl)
  simp only [pA, pB, pC, pD]
  refine mixFskip 13 (by kernel_rfl) (by rfl) (by rfl) ?_
  simp only [pA, pB, pC, pD]
  refine mixFskip 15 (by kernel_rfl) (by rfl) (by rfl) ?_
  simp only [pA, pB, pC, pD]
  refine mixSskip 14 (by kernel_rfl) (by kernel_rfl) (by rfl) (by rfl) (Below.refl _ _) ?_
  try simp only [pA, pB, pC, pD]
  refine mixSskip 16 (by kernel_rfl) (by kernel_rfl) (by rfl) (by rfl) (Below.refl _ _) ?_
  try simp only [pA, pB, pC, pD]
  refine mixFskip 17 (by kernel_rfl) (by rfl) (by rfl) ?_
  simp only [pA, pB, pC, pD]
  apply mixF 18 (by kernel_rfl) (by rfl) (by rfl)
  ·(intro w' hx; go_simp <;> with_reducible rfl)
  simp only [pA, pB, pC, pD]
  apply mixF 19 (by kernel_rfl) (by rfl) (by rfl)
  ·(intro w' hx; go_simp <;> with_reducible rfl)
  simp only [pA, pB, pC, pD]
  apply mixF 20 (by kernel_rfl) (by rfl) (by rfl)
  ·(intro w' hx; go_simp <;> with_reducible rfl)
  simp only [pA, pB, pC, pD]
  refine mixEnd (by kernel_rfl) ?_
  go_wp2_with fail
  go_ret
  exact ⟨rfl, hxE⟩
end Go.Proofs.YtdmnmfnmaccmoaaDoor
