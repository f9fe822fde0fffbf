/- The statement ScrubAll: the walk of the law. -/
import Derived.Test.YtpidjkadpnjahaaScrubTwice
namespace Go.Proofs.Ytpidjkadpnjahaa
open Go Go.RowKit
set_option maxRecDepth 100000 in
set_option maxHeartbeats 4000000 in
theorem scrubAll_law (w : World) {v : Value} {l : List Stp} (hl : Row eStp [] w w.heap.size v l) :
  Calls Try.prog 13 #[v] w fun e w' => e = .returned (.bool true) ∧ Ext w w' := by
 obtain ⟨A, n, c, rfl, _, _, _⟩ := hl.form
 have hx : Ext w w := Below.refl _ _
 go_enter Try.func13, Try.ntmps13
 go_wp2_with fail
 refine (alive9_w _).mono ?_
 rintro e0 w0 ⟨rfl, he⟩
 have hx := ext_trans hx he
 have hl := hl.ext he
 clear he
 have hxp : Ext w0 w0 := Below.refl _ _
 go_wp2_with fail
 refine (refPlay_v hl).mono ?_
 rintro e1 w1 ⟨v1, es, ns, rfl, s1, _, _, he⟩
 have hx := ext_trans hx he
 have hxp := ext_trans hxp he
 clear he
 clear hl
 have HG := Lib.hid (yPlay_good (l.take 100))
 generalize yPlay (l.take 100) = s at s1 HG
 obtain ⟨A3, n3, c3, E3, m3, e3, F3, k3, f3, rfl, d3, _, _, _, _, _, _, _⟩ := s1.form
 go_upto_region 4 with (fail)
 generalize hwn : World.alloc w1 _ = w2
 have he : Ext w1 w2 := by rw [← hwn]; exact ext_alloc _ _
 have b3 : Box w2 w1.heap.size 100 #[.slice A3 n3 c3, .slice E3 m3 e3, .slice F3 k3 f3, .int .i64 s.next] := by rw [← hwn]; exact Box.new _ _ _ (by simp)
 clear hwn
 have hx := ext_trans hx he
 have hxp := ext_trans hxp he
 have s1 := s1.ext he
 have d3 := d3.ext he
 clear he
 obtain ⟨b3_0, b3_1, b3_2, b3_3⟩ := b3.c4
 have b3_z := b3.free
 have b3_l := b3.lt
 go_wp2_with fail
 refine (scAll_v hxp.size s1 HG.out).mono ?_
 rintro e3 w3 ⟨v3, rfl, s3, he⟩
 try clear b3_0 b3_1 b3_2 b3_3 b3_z b3_l
 have hx := ext_trans hx he
 have hxp := ext_trans hxp he
 have d3 := d3.ext he
 have b3 := b3.ext he
 clear he
 clear s1
 have HI := Lib.hid (scAll_index HG.out)
 have HH := Lib.hid (scAll_how HG.out)
 have HG6 := Lib.hid (scTo_sGood HG.out 6)
 have HF := Lib.hid (good_fine HG.out.disk)
 clear HG
 generalize (scTo s 6).2 = hs
 generalize (scTo s 6).1 = y at s3 HG6 HI HH
 obtain ⟨A6, n6, c6, E6, m6, e6, F6, k6, f6, rfl, d6, i6, _, _, _, _, _, _⟩ := s3.form
 have HF6 := Lib.hid (good_fine HG6.out.disk)
 have HR : Hid (rc (scHows y.disk (y.disk.blocks.length / 2)) 0 + rc (scHows y.disk (y.disk.blocks.length / 2)) 1 = 6) := Lib.hid (by
  rw [HG6.out.disk.len, rc_all, hows_len]
  ·rfl
  ·intro x hx
   unfold scHows at hx
   obtain ⟨p, hp, rfl⟩ := List.mem_map.1 hx
   exact HH.out p (by have := List.mem_range.1 hp; omega))
 clear HH s3
 unfold repC
 go_upto_region 5 with (fail)
 generalize hwn : World.alloc (World.alloc w3 _) _ = w4
 have he : Ext w3 w4 := by rw [← hwn]; exact (ext_alloc _ _).alloc (by simp) _
 have b6 : Box w4 w3.heap.size 100 #[.slice A6 n6 c6, .slice E6 m6 e6, .slice F6 k6 f6, .int .i64 y.next] := by rw [← hwn]; exact (Box.new _ _ _ (by simp)).alloc _
 clear hwn
 have hx := ext_trans hx he
 have d3 := d3.ext he
 have d6 := d6.ext he
 have i6 := i6.ext he
 have b3 := b3.ext he
 clear he
 obtain ⟨b6_0, b6_1, b6_2, b6_3⟩ := b6.c4
 have b6_z := b6.free
 have b6_l := b6.lt
 go_wp2_with fail
 refine (scLook_v d6 HF6.out.ok).mono ?_
 rintro e5 w5 ⟨rfl, he⟩
 try clear b6_0 b6_1 b6_2 b6_3 b6_z b6_l
 have hx := ext_trans hx he
 have d3 := d3.ext he
 have d6 := d6.ext he
 have i6 := i6.ext he
 have b3 := b3.ext he
 have b6 := b6.ext he
 clear he
 generalize scHows y.disk (y.disk.blocks.length / 2) = hs2 at HR ⊢
 unfold repC
 go_upto_region 6 with (fail)
 generalize hwn : World.alloc w5 _ = w6
 have he : Ext w5 w6 := by rw [← hwn]; exact ext_alloc _ _
 have b8 : Box w6 w5.heap.size 89 (repC hs2) := by rw [← hwn]; exact Box.new _ _ _ (by simp)
 clear hwn
 have hx := ext_trans hx he
 have d3 := d3.ext he
 have d6 := d6.ext he
 have i6 := i6.ext he
 have b3 := b3.ext he
 have b6 := b6.ext he
 clear he
 have hd : Ext w6 w6.drew := (Below.refl _ _).drew
 have hx := ext_trans hx hd
 have d3 := d3.ext hd
 have d6 := d6.ext hd
 have i6 := i6.ext hd
 have b3 := b3.ext hd
 have b6 := b6.ext hd
 have b8 := b8.ext hd
 clear hd
 have hwr : IntKind.wrap .i64 (rc hs2 0 + rc hs2 1) = 6 := by rw [HR.out]; rfl
 refine wp_region_ext 25 [0, 1, 2, 3, 4, 5, 6, 7, 8, 9, 10, 11, 12, 15, 16, 17, 18, 19, 20, 23, 24] false rfl (by kernel_rfl) (by kernel_rfl) ?_
 generalize w6.drew = D at hx d3 d6 i6 b3 b6 b8 ⊢
 apply mixF 0 (by kernel_rfl) (by rfl) (by rfl)
 ·(intro w' hx; obtain ⟨x0, x1, x2, x3, x4, x5⟩ := (b8.ext hx).c6; obtain ⟨y0, y1, y2, y3⟩ := (b6.ext hx).c4; obtain ⟨z0, z1, z2, z3⟩ := (b3.ext hx).c4; go_simp <;> with_reducible rfl)
 simp only [pA, pB, pC, pD]
 apply mixF 1 (by kernel_rfl) (by rfl) (by rfl)
 ·(intro w' hx; obtain ⟨x0, x1, x2, x3, x4, x5⟩ := (b8.ext hx).c6; obtain ⟨y0, y1, y2, y3⟩ := (b6.ext hx).c4; obtain ⟨z0, z1, z2, z3⟩ := (b3.ext hx).c4; go_simp <;> with_reducible rfl)
 simp only [pA, pB, pC, pD]
 apply mixF 2 (by kernel_rfl) (by rfl) (by rfl)
 ·(intro w' hx; obtain ⟨x0, x1, x2, x3, x4, x5⟩ := (b8.ext hx).c6; obtain ⟨y0, y1, y2, y3⟩ := (b6.ext hx).c4; obtain ⟨z0, z1, z2, z3⟩ := (b3.ext hx).c4; go_simp <;> with_reducible rfl)
 simp only [pA, pB, pC, pD]
 apply mixF 3 (by kernel_rfl) (by rfl) (by rfl)
 ·(intro w' hx; obtain ⟨x0, x1, x2, x3, x4, x5⟩ := (b8.ext hx).c6; obtain ⟨y0, y1, y2, y3⟩ := (b6.ext hx).c4; obtain ⟨z0, z1, z2, z3⟩ := (b3.ext hx).c4; go_simp <;> with_reducible rfl)
 simp only [pA, pB, pC, pD]
 apply mixF 4 (by kernel_rfl) (by rfl) (by rfl)
 ·(intro w' hx; obtain ⟨x0, x1, x2, x3, x4, x5⟩ := (b8.ext hx).c6; obtain ⟨y0, y1, y2, y3⟩ := (b6.ext hx).c4; obtain ⟨z0, z1, z2, z3⟩ := (b3.ext hx).c4; go_simp <;> with_reducible rfl)
 simp only [pA, pB, pC, pD]
 apply mixF 5 (by kernel_rfl) (by rfl) (by rfl)
 ·(intro w' hx; obtain ⟨x0, x1, x2, x3, x4, x5⟩ := (b8.ext hx).c6; obtain ⟨y0, y1, y2, y3⟩ := (b6.ext hx).c4; obtain ⟨z0, z1, z2, z3⟩ := (b3.ext hx).c4; go_simp <;> with_reducible rfl)
 simp only [pA, pB, pC, pD]
 apply mixF 6 (by kernel_rfl) (by rfl) (by rfl)
 ·(intro w' hx; obtain ⟨x0, x1, x2, x3, x4, x5⟩ := (b8.ext hx).c6; obtain ⟨y0, y1, y2, y3⟩ := (b6.ext hx).c4; obtain ⟨z0, z1, z2, z3⟩ := (b3.ext hx).c4; go_simp <;> with_reducible rfl)
 simp only [pA, pB, pC, pD]
 apply mixF 7 (by kernel_rfl) (by rfl) (by rfl)
 ·(intro w' hx; obtain ⟨x0, x1, x2, x3, x4, x5⟩ := (b8.ext hx).c6; obtain ⟨y0, y1, y2, y3⟩ := (b6.ext hx).c4; obtain ⟨z0, z1, z2, z3⟩ := (b3.ext hx).c4; go_simp <;> with_reducible rfl)
 simp only [pA, pB, pC, pD]
 apply mixF 8 (by kernel_rfl) (by rfl) (by rfl)
 ·(intro w' hx; obtain ⟨x0, x1, x2, x3, x4, x5⟩ := (b8.ext hx).c6; obtain ⟨y0, y1, y2, y3⟩ := (b6.ext hx).c4; obtain ⟨z0, z1, z2, z3⟩ := (b3.ext hx).c4; go_simp <;> with_reducible rfl)
 simp only [pA, pB, pC, pD]
 apply mixF 9 (by kernel_rfl) (by rfl) (by rfl)
 ·(intro w' hx; obtain ⟨x0, x1, x2, x3, x4, x5⟩ := (b8.ext hx).c6; obtain ⟨y0, y1, y2, y3⟩ := (b6.ext hx).c4; obtain ⟨z0, z1, z2, z3⟩ := (b3.ext hx).c4; go_simp <;> with_reducible rfl)
 simp only [pA, pB, pC, pD]
 apply mixF 10 (by kernel_rfl) (by rfl) (by rfl)
 ·(intro w' hx; obtain ⟨x0, x1, x2, x3, x4, x5⟩ := (b8.ext hx).c6; obtain ⟨y0, y1, y2, y3⟩ := (b6.ext hx).c4; obtain ⟨z0, z1, z2, z3⟩ := (b3.ext hx).c4; go_simp <;> with_reducible rfl)
 simp only [pA, pB, pC, pD]
 apply mixF 11 (by kernel_rfl) (by rfl) (by rfl)
 ·(intro w' hx; obtain ⟨x0, x1, x2, x3, x4, x5⟩ := (b8.ext hx).c6; obtain ⟨y0, y1, y2, y3⟩ := (b6.ext hx).c4; obtain ⟨z0, z1, z2, z3⟩ := (b3.ext hx).c4; go_simp <;> with_reducible rfl)
 simp only [pA, pB, pC, pD]
 apply mixF 12 (by kernel_rfl) (by rfl) (by rfl)
 ·(intro w' hx; obtain ⟨x0, x1, x2, x3, x4, x5⟩ := (b8.ext hx).c6; obtain ⟨y0, y1, y2, y3⟩ := (b6.ext hx).c4; obtain ⟨z0, z1, z2, z3⟩ := (b3.ext hx).c4; go_simp <;> with_reducible rfl)
 simp only [pA, pB, pC, pD]
 clear hwr b8 b3
 refine mixS 13 (by kernel_rfl) (by kernel_rfl) (by rfl) (by rfl) (fun K hK => ?_)
 go_wp2_with (go_at_call 70; refine (refScan_v d3 HF.out.ok).mono ?_; rintro e w7 ⟨v7, rfl, o7, he⟩)
 refine hK.out _ _ (he) ?_
 clear hK K
 try simp only [pA, pB, pC, pD]
 have hx := ext_trans hx he
 have d6 := d6.ext he
 have i6 := i6.ext he
 have b6 := b6.ext he
 clear he d3
 refine mixS 14 (by kernel_rfl) (by kernel_rfl) (by rfl) (by rfl) (fun K hK => ?_)
 go_wp2_with (go_at_call 68; refine (sameEnts_v i6 (o7.row (T := [74]) (base := 0) (by decide) (Nat.le_refl _))).mono ?_; rintro e w8 ⟨rfl, he⟩)
 refine hK.out _ _ (he) ?_
 clear hK K
 try simp only [pA, pB, pC, pD]
 rw [← HI.out.1, esSame_id]
 have hx := ext_trans hx he
 have d6 := d6.ext he
 have i6 := i6.ext he
 have b6 := b6.ext he
 clear he o7
 apply mixF 15 (by kernel_rfl) (by rfl) (by rfl)
 ·(intro w' hx; obtain ⟨y0, y1, y2, y3⟩ := (b6.ext hx).c4; go_simp <;> with_reducible rfl)
 simp only [pA, pB, pC, pD]
 apply mixF 16 (by kernel_rfl) (by rfl) (by rfl)
 ·(intro w' hx; obtain ⟨y0, y1, y2, y3⟩ := (b6.ext hx).c4; go_simp <;> with_reducible rfl)
 simp only [pA, pB, pC, pD]
 apply mixF 17 (by kernel_rfl) (by rfl) (by rfl)
 ·(intro w' hx; obtain ⟨y0, y1, y2, y3⟩ := (b6.ext hx).c4; go_simp <;> with_reducible rfl)
 simp only [pA, pB, pC, pD]
 apply mixF 18 (by kernel_rfl) (by rfl) (by rfl)
 ·(intro w' hx; obtain ⟨y0, y1, y2, y3⟩ := (b6.ext hx).c4; go_simp <;> with_reducible rfl)
 simp only [pA, pB, pC, pD]
 apply mixF 19 (by kernel_rfl) (by rfl) (by rfl)
 ·(intro w' hx; obtain ⟨y0, y1, y2, y3⟩ := (b6.ext hx).c4; go_simp <;> with_reducible rfl)
 simp only [pA, pB, pC, pD]
 apply mixF 20 (by kernel_rfl) (by rfl) (by rfl)
 ·(intro w' hx; obtain ⟨y0, y1, y2, y3⟩ := (b6.ext hx).c4; go_simp <;> with_reducible rfl)
 simp only [pA, pB, pC, pD]
 refine mixS 21 (by kernel_rfl) (by kernel_rfl) (by rfl) (by rfl) (fun K hK => ?_)
 go_wp2_with (go_at_call 70; refine (refScan_v d6 HF6.out.ok).mono ?_; rintro e w9 ⟨v9, rfl, o9, he⟩)
 refine hK.out _ _ (he) ?_
 clear hK K
 try simp only [pA, pB, pC, pD]
 have hx := ext_trans hx he
 have i6 := i6.ext he
 clear he d6 b6
 refine mixS 22 (by kernel_rfl) (by kernel_rfl) (by rfl) (by rfl) (fun K hK => ?_)
 go_wp2_with (go_at_call 68; refine (sameEnts_v i6 (o9.row (T := [74]) (base := 0) (by decide) (Nat.le_refl _))).mono ?_; rintro e w10 ⟨rfl, he⟩)
 refine hK.out _ _ (he) ?_
 clear hK K
 try simp only [pA, pB, pC, pD]
 rw [← HI.out.2, esSame_id]
 have hx := ext_trans hx he
 clear he o9
 apply mixF 23 (by kernel_rfl) (by rfl) (by rfl)
 ·(intro w' hx; go_simp <;> with_reducible rfl)
 simp only [pA, pB, pC, pD]
 apply mixF 24 (by kernel_rfl) (by rfl) (by rfl)
 ·(intro w' hx; go_simp <;> with_reducible rfl)
 simp only [pA, pB, pC, pD]
 refine mixEnd (by kernel_rfl) ?_
 go_wp2_with fail
 go_ret
 exact ⟨rfl, hx⟩
end Go.Proofs.Ytpidjkadpnjahaa
