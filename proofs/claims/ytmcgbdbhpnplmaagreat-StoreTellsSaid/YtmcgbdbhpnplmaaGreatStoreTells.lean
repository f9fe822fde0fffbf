/- The statement StoreTells: the walk of the law. -/
import Derived.Test.YtmcgbdbhpnplmaaGreatSt3
import Derived.Test.YtmcgbdbhpnplmaaGreatSt4
import Derived.Test.YtmcgbdbhpnplmaaGreatSc8
namespace Go.Proofs.YtmcgbdbhpnplmaaGreat
open Go Go.RowKit
theorem recs_getD {l : List Ent} {i : Nat} (h : i < l.length) : (l.map fun e => e.rcd).getD i rZero = (l.getD i ⟨rZero, 0⟩).rcd := getD_map _ (⟨rZero, 0⟩ : Ent) _ _ _ h
theorem list_same {s : Sto} (g : iRight s.index) (st mo : Int) : rList s st mo = sList s st mo := by rw [rList_eq, sList_eq g]
set_option maxRecDepth 100000 in
set_option maxHeartbeats 4000000 in
theorem storeTells_law (w : World) {v dv : Value} {l : List Stp} {d : Ded} {key most : Int} (hl : Row eStp [] w w.heap.size v l) (hd : DedV w w.heap.size dv d) :
  Calls Tryz.prog 3 #[v, dv, .int .i64 key, .int .i64 most] w fun e w' => e = .returned (.bool true) ∧ Ext w w' := by
 obtain ⟨A, n, c, rfl, _, _, _⟩ := hl.form
 obtain ⟨A0, n0, c0, rfl, _, _⟩ := hd.at_
 go_enter Tryz.func3, Tryz.ntmps3
 go_upto_region 1 with (fail)
 generalize hwn : World.alloc w _ = w0
 have hx : Ext w w0 := by rw [← hwn]; exact ext_alloc _ _
 have b5 : Box w0 w.heap.size 25 #[.int .i64 d.kind, .int .i64 d.key, .int .i64 d.n, .slice A0 n0 c0] := by rw [← hwn]; exact Box.new _ _ _ rfl
 clear hwn
 have hl := hl.ext hx
 have hd := hd.ext hx
 obtain ⟨gd, hgd⟩ : ∃ g, g = w.heap.size := ⟨_, rfl⟩
 rw [show Box w0 w.heap.size 25 #[.int .i64 d.kind, .int .i64 d.key, .int .i64 d.n, .slice A0 n0 c0] ↔ Box w0 gd 25 #[.int .i64 d.kind, .int .i64 d.key, .int .i64 d.n, .slice A0 n0 c0] by rw [hgd]] at b5
 rw [← hgd]
 clear hgd
 go_wp2_with fail
 refine (stoNew_v _).mono ?_
 rintro e1 w1 ⟨v1, rfl, s1, he⟩
 have hx := ext_trans hx he
 have hl := hl.ext he
 have hd := hd.ext he
 have b5 := b5.ext he
 clear he
 go_wp2_with fail
 refine (refStoNew_v _).mono ?_
 rintro e2 w2 ⟨v2, rfl, s2, he⟩
 have hx := ext_trans hx he
 have hl := hl.ext he
 have hd := hd.ext he
 have b5 := b5.ext he
 have s1 := s1.ext he
 clear he
 go_wp2_with fail
 refine (sameStore_v s1 s2).mono ?_
 rintro e3 w3 ⟨rfl, he⟩
 have hx := ext_trans hx he
 have hl := hl.ext he
 have hd := hd.ext he
 have b5 := b5.ext he
 clear he
 clear s1 s2
 have l5 := b5.lt
 go_wp2_with fail
 refine (refPlay_v hl).mono ?_
 rintro e4 w4 ⟨v4, es, ns, rfl, s4, _, _, he⟩
 have hx := ext_trans hx he
 have hd := hd.ext he
 have b5 := b5.ext he
 clear he
 clear hl
 have HG := Lib.hid (yPlay_good (l.take 100))
 generalize yPlay (l.take 100) = s at s4 HG
 obtain ⟨A4, n4, c4, E4, m4, e4, F4, k4, f4, rfl, _, _, _, _, _, _, _, _⟩ := s4.form
 go_upto_region 4 with (fail)
 generalize hwn : World.alloc w4 _ = w5
 have he : Ext w4 w5 := by rw [← hwn]; exact ext_alloc _ _
 have b9 : Box w5 w4.heap.size 33 #[.slice A4 n4 c4, .slice E4 m4 e4, .slice F4 k4 f4, .int .i64 s.next] := by rw [← hwn]; exact Box.new _ _ _ (by simp)
 clear hwn
 have l5 := b5.lt
 have z9 := hx.size
 have hx := ext_trans hx he
 have s4 := s4.ext he
 have hd := hd.ext he
 have b5 := b5.ext he
 clear he
 obtain ⟨g9, hgk⟩ : ∃ g, g = w4.heap.size := ⟨_, rfl⟩
 rw [← hgk] at b9 l5 ⊢
 clear hgk
 have s4 := s4.all (T' := tS)
 have hd := hd.all
 obtain ⟨B, hB⟩ : ∃ B, B = w5.heap.size := ⟨_, rfl⟩
 rw [← hB] at s4 hd
 have l9 : g9 < B := by rw [hB]; exact b9.lt
 have hzB : B ≤ w5.heap.size := by omega
 have l0 : w.heap.size ≤ B := by have := hx.size; omega
 have hzC : w5.heap.size ≤ B := by omega
 clear hB
 have hxB : Ext w5 w5 := Below.refl _ _
 obtain ⟨b5_0, b5_1, b5_2, b5_3⟩ := b5.c4
 have b5_z := b5.free
 have b5_l := b5.lt
 obtain ⟨b9_0, b9_1, b9_2, b9_3⟩ := b9.c4
 have b9_z := b9.free
 have b9_l := b9.lt
 go_wp2_with fail
 refine (stoBegin_v s4 HG.out hd).mono ?_
 rintro e6 w6 ⟨v6, rfl, s6, he⟩
 try clear b5_0 b5_1 b5_2 b5_3 b5_z b5_l b9_0 b9_1 b9_2 b9_3 b9_z b9_l
 have hx := ext_trans hx he
 have hxB := ext_trans hxB he
 have s4 := s4.ext he
 have hd := hd.ext he
 have b5 := b5.ext he
 have b9 := b9.ext he
 clear he
 obtain ⟨A6, n6, c6, E6, m6, e6, F6, k6, f6, rfl, _, _, _, _, _, _, _, _⟩ := s6.form
 go_upto_region 5 with (fail)
 generalize hwn : World.alloc w6 _ = w7
 have he : Ext w6 w7 := by rw [← hwn]; exact ext_alloc _ _
 have b12 : Box w7 w6.heap.size 33 #[.slice A6 n6 c6, .slice E6 m6 e6, .slice F6 k6 f6, .int .i64 (sBegin s d).1.next] := by rw [← hwn]; exact Box.new _ _ _ (by simp)
 clear hwn
 have l12 : B ≤ w6.heap.size := by have := hxB.size; omega
 have hx := ext_trans hx he
 have hxB := ext_trans hxB he
 have s4 := s4.ext he
 have hd := hd.ext he
 have s6 := s6.ext he
 have b5 := b5.ext he
 have b9 := b9.ext he
 clear he
 obtain ⟨g12, hgk⟩ : ∃ g, g = w6.heap.size := ⟨_, rfl⟩
 rw [← hgk] at b12 l12 ⊢
 clear hgk
 obtain ⟨b5_0, b5_1, b5_2, b5_3⟩ := b5.c4
 have b5_z := b5.free
 have b5_l := b5.lt
 obtain ⟨b9_0, b9_1, b9_2, b9_3⟩ := b9.c4
 have b9_z := b9.free
 have b9_l := b9.lt
 go_wp2_with fail
 refine (refBegin_v (by have := hxB.size; omega) s4 HG.out hd).mono ?_
 rintro e8 w8 ⟨v8, rfl, s8, he⟩
 try clear b5_0 b5_1 b5_2 b5_3 b5_z b5_l b9_0 b9_1 b9_2 b9_3 b9_z b9_l
 have hx := ext_trans hx he
 have hxB := ext_trans hxB he
 have s4 := s4.ext he
 have hd := hd.ext he
 have s6 := s6.ext he
 have b5 := b5.ext he
 have b9 := b9.ext he
 have b12 := b12.ext he
 clear he
 obtain ⟨A8, n8, c8, E8, m8, e8, F8, k8, f8, rfl, d8, _, _, _, _, _, _, _⟩ := s8.form
 go_upto_region 6 with (fail)
 generalize hwn : World.alloc w8 _ = w9
 have he : Ext w8 w9 := by rw [← hwn]; exact ext_alloc _ _
 have b15 : Box w9 w8.heap.size 33 #[.slice A8 n8 c8, .slice E8 m8 e8, .slice F8 k8 f8, .int .i64 (sBegin s d).1.next] := by rw [← hwn]; exact Box.new _ _ _ (by simp)
 clear hwn
 have l15 := b12.lt
 have hx := ext_trans hx he
 have hxB := ext_trans hxB he
 have s4 := s4.ext he
 have hd := hd.ext he
 have s6 := s6.ext he
 have s8 := s8.ext he
 have d8 := d8.ext he
 have b5 := b5.ext he
 have b9 := b9.ext he
 have b12 := b12.ext he
 clear he
 obtain ⟨g15, hgk⟩ : ∃ g, g = w8.heap.size := ⟨_, rfl⟩
 rw [← hgk] at b15 l15 ⊢
 clear hgk
 have HFB := Lib.hid (begin_fine HG.out d)
 generalize (sBegin s d).1 = y at s6 s8 d8 b12 b15 HFB
 generalize (sBegin s d).2.1 = nn
 generalize (sBegin s d).2.2 = qq
 have qe : (qq != qq) = false := by simp
 have qn : (nn != nn) = false := by simp
 have hd0 : Ext w9 w9.drew := (Below.refl _ _).drew
 have hx := ext_trans hx hd0
 have hxB := ext_trans hxB hd0
 have s4 := s4.ext hd0
 have hd := hd.ext hd0
 have s6 := s6.ext hd0
 have s8 := s8.ext hd0
 have d8 := d8.ext hd0
 have b5 := b5.ext hd0
 have b9 := b9.ext hd0
 have b12 := b12.ext hd0
 have b15 := b15.ext hd0
 clear hd0
 refine wp_region_ext 31 [0, 1, 2, 3, 4, 5, 6, 7, 8, 9, 10, 12, 13, 14, 15, 16, 18, 19, 22, 23, 24, 25, 27, 29, 30] false rfl (by kernel_rfl) (by kernel_rfl) ?_
 generalize w9.drew = D at hx hxB s4 hd s6 s8 d8 b5 b9 b12 b15 ⊢
 apply mixF 0 (by kernel_rfl) (by rfl) (by rfl)
 ·(intro w' hx; obtain ⟨x0, x1, x2, x3⟩ := (b12.ext hx).c4; obtain ⟨y0, y1, y2, y3⟩ := (b15.ext hx).c4; go_simp <;> with_reducible rfl)
 simp only [pA, pB, pC, pD]
 apply mixF 1 (by kernel_rfl) (by rfl) (by rfl)
 ·(intro w' hx; obtain ⟨x0, x1, x2, x3⟩ := (b12.ext hx).c4; obtain ⟨y0, y1, y2, y3⟩ := (b15.ext hx).c4; go_simp <;> with_reducible rfl)
 simp only [pA, pB, pC, pD]
 apply mixF 2 (by kernel_rfl) (by rfl) (by rfl)
 ·(intro w' hx; obtain ⟨x0, x1, x2, x3⟩ := (b12.ext hx).c4; obtain ⟨y0, y1, y2, y3⟩ := (b15.ext hx).c4; go_simp <;> with_reducible rfl)
 simp only [pA, pB, pC, pD]
 apply mixF 3 (by kernel_rfl) (by rfl) (by rfl)
 ·(intro w' hx; obtain ⟨x0, x1, x2, x3⟩ := (b12.ext hx).c4; obtain ⟨y0, y1, y2, y3⟩ := (b15.ext hx).c4; go_simp <;> with_reducible rfl)
 simp only [pA, pB, pC, pD]
 apply mixF 4 (by kernel_rfl) (by rfl) (by rfl)
 ·(intro w' hx; obtain ⟨x0, x1, x2, x3⟩ := (b12.ext hx).c4; obtain ⟨y0, y1, y2, y3⟩ := (b15.ext hx).c4; go_simp <;> with_reducible rfl)
 simp only [pA, pB, pC, pD]
 apply mixF 5 (by kernel_rfl) (by rfl) (by rfl)
 ·(intro w' hx; obtain ⟨x0, x1, x2, x3⟩ := (b12.ext hx).c4; obtain ⟨y0, y1, y2, y3⟩ := (b15.ext hx).c4; go_simp <;> with_reducible rfl)
 simp only [pA, pB, pC, pD]
 apply mixF 6 (by kernel_rfl) (by rfl) (by rfl)
 ·(intro w' hx; obtain ⟨x0, x1, x2, x3⟩ := (b12.ext hx).c4; obtain ⟨y0, y1, y2, y3⟩ := (b15.ext hx).c4; go_simp <;> with_reducible rfl)
 simp only [pA, pB, pC, pD]
 apply mixF 7 (by kernel_rfl) (by rfl) (by rfl)
 ·(intro w' hx; obtain ⟨x0, x1, x2, x3⟩ := (b12.ext hx).c4; obtain ⟨y0, y1, y2, y3⟩ := (b15.ext hx).c4; go_simp <;> with_reducible rfl)
 simp only [pA, pB, pC, pD]
 apply mixF 8 (by kernel_rfl) (by rfl) (by rfl)
 ·(intro w' hx; obtain ⟨x0, x1, x2, x3⟩ := (b12.ext hx).c4; obtain ⟨y0, y1, y2, y3⟩ := (b15.ext hx).c4; go_simp <;> with_reducible rfl)
 simp only [pA, pB, pC, pD]
 apply mixF 9 (by kernel_rfl) (by rfl) (by rfl)
 ·(intro w' hx; obtain ⟨x0, x1, x2, x3⟩ := (b12.ext hx).c4; obtain ⟨y0, y1, y2, y3⟩ := (b15.ext hx).c4; go_simp <;> with_reducible rfl)
 simp only [pA, pB, pC, pD]
 apply mixF 10 (by kernel_rfl) (by rfl) (by rfl)
 ·(intro w' hx; obtain ⟨x0, x1, x2, x3⟩ := (b12.ext hx).c4; obtain ⟨y0, y1, y2, y3⟩ := (b15.ext hx).c4; go_simp <;> with_reducible rfl)
 simp only [pA, pB, pC, pD]
 refine mixS 11 (by kernel_rfl) (by kernel_rfl) (by rfl) (by rfl) (fun K hK => ?_)
 go_wp2_with (go_at_call 13; refine (sameStore_v s6 s8).mono ?_; rintro e w10 ⟨rfl, he⟩)
 refine hK.out _ _ (he) ?_
 clear hK K
 try simp only [pA, pB, pC, pD]
 have hx := ext_trans hx he
 have hxB := ext_trans hxB he
 have s4 := s4.ext he
 have hd := hd.ext he
 have d8 := d8.ext he
 have b5 := b5.ext he
 have b9 := b9.ext he
 have b12 := b12.ext he
 have b15 := b15.ext he
 clear he s6 s8
 apply mixF 12 (by kernel_rfl) (by rfl) (by rfl)
 ·(intro w' hx; obtain ⟨y0, y1, y2, y3⟩ := (b15.ext hx).c4; go_simp <;> with_reducible rfl)
 simp only [pA, pB, pC, pD]
 apply mixF 13 (by kernel_rfl) (by rfl) (by rfl)
 ·(intro w' hx; obtain ⟨y0, y1, y2, y3⟩ := (b15.ext hx).c4; go_simp <;> with_reducible rfl)
 simp only [pA, pB, pC, pD]
 apply mixF 14 (by kernel_rfl) (by rfl) (by rfl)
 ·(intro w' hx; obtain ⟨y0, y1, y2, y3⟩ := (b15.ext hx).c4; go_simp <;> with_reducible rfl)
 simp only [pA, pB, pC, pD]
 apply mixF 15 (by kernel_rfl) (by rfl) (by rfl)
 ·(intro w' hx; obtain ⟨y0, y1, y2, y3⟩ := (b15.ext hx).c4; go_simp <;> with_reducible rfl)
 simp only [pA, pB, pC, pD]
 apply mixF 16 (by kernel_rfl) (by rfl) (by rfl)
 ·(intro w' hx; obtain ⟨y0, y1, y2, y3⟩ := (b15.ext hx).c4; go_simp <;> with_reducible rfl)
 simp only [pA, pB, pC, pD]
 apply mixF 18 (by kernel_rfl) (by rfl) (by rfl)
 ·(intro w' hx; obtain ⟨y0, y1, y2, y3⟩ := (b15.ext hx).c4; go_simp <;> with_reducible rfl)
 simp only [pA, pB, pC, pD]
 apply mixF 19 (by kernel_rfl) (by rfl) (by rfl)
 ·(intro w' hx; obtain ⟨y0, y1, y2, y3⟩ := (b15.ext hx).c4; go_simp <;> with_reducible rfl)
 simp only [pA, pB, pC, pD]
 refine mixS 17 (by kernel_rfl) (by kernel_rfl) (by rfl) (by rfl) (fun K hK => ?_)
 go_wp2_with (go_at_call 19; refine (stoMount_v d8 HFB.out).mono ?_; rintro e w11 ⟨v11, rfl, s11, he⟩)
 refine hK.out _ _ (he) ?_
 clear hK K
 try simp only [pA, pB, pC, pD]
 have hx := ext_trans hx he
 have hxB := ext_trans hxB he
 have s4 := s4.ext he
 have hd := hd.ext he
 have d8 := d8.ext he
 have b5 := b5.ext he
 have b9 := b9.ext he
 have b12 := b12.ext he
 have b15 := b15.ext he
 clear he
 refine mixS 20 (by kernel_rfl) (by kernel_rfl) (by rfl) (by rfl) (fun K hK => ?_)
 go_wp2_with (go_at_call 20; refine (refMount_v (by have := hxB.size; omega) d8 HFB.out).mono ?_; rintro e w12 ⟨v12, rfl, s12, he⟩)
 refine hK.out _ _ (he) ?_
 clear hK K
 try simp only [pA, pB, pC, pD]
 have hx := ext_trans hx he
 have hxB := ext_trans hxB he
 have s4 := s4.ext he
 have hd := hd.ext he
 have s11 := s11.ext he
 have b5 := b5.ext he
 have b9 := b9.ext he
 have b12 := b12.ext he
 have b15 := b15.ext he
 clear he d8
 refine mixS 21 (by kernel_rfl) (by kernel_rfl) (by rfl) (by rfl) (fun K hK => ?_)
 go_wp2_with (go_at_call 13; refine (sameStore_v s11 s12).mono ?_; rintro e w13 ⟨rfl, he⟩)
 refine hK.out _ _ (he) ?_
 clear hK K
 try simp only [pA, pB, pC, pD]
 have hx := ext_trans hx he
 have hxB := ext_trans hxB he
 have s4 := s4.ext he
 have hd := hd.ext he
 have b5 := b5.ext he
 have b9 := b9.ext he
 have b12 := b12.ext he
 have b15 := b15.ext he
 clear he s11 s12
 apply mixF 22 (by kernel_rfl) (by rfl) (by rfl)
 ·(intro w' hx; obtain ⟨y0, y1, y2, y3⟩ := (b9.ext hx).c4; go_simp <;> with_reducible rfl)
 simp only [pA, pB, pC, pD]
 apply mixF 23 (by kernel_rfl) (by rfl) (by rfl)
 ·(intro w' hx; obtain ⟨y0, y1, y2, y3⟩ := (b9.ext hx).c4; go_simp <;> with_reducible rfl)
 simp only [pA, pB, pC, pD]
 apply mixF 24 (by kernel_rfl) (by rfl) (by rfl)
 ·(intro w' hx; obtain ⟨y0, y1, y2, y3⟩ := (b9.ext hx).c4; go_simp <;> with_reducible rfl)
 simp only [pA, pB, pC, pD]
 apply mixF 25 (by kernel_rfl) (by rfl) (by rfl)
 ·(intro w' hx; obtain ⟨y0, y1, y2, y3⟩ := (b9.ext hx).c4; go_simp <;> with_reducible rfl)
 simp only [pA, pB, pC, pD]
 apply mixF 27 (by kernel_rfl) (by rfl) (by rfl)
 ·(intro w' hx; obtain ⟨y0, y1, y2, y3⟩ := (b9.ext hx).c4; go_simp <;> with_reducible rfl)
 simp only [pA, pB, pC, pD]
 refine mixS 26 (by kernel_rfl) (by kernel_rfl) (by rfl) (by rfl) (fun K hK => ?_)
 go_wp2_with (go_at_call 21; refine (stoOwn_v s4 HG.out.fine).mono ?_; rintro e w14 ⟨v14, rfl, s14, he⟩)
 refine hK.out _ _ (he) ?_
 clear hK K
 try simp only [pA, pB, pC, pD]
 have hx := ext_trans hx he
 have hxB := ext_trans hxB he
 have s4 := s4.ext he
 have hd := hd.ext he
 have b5 := b5.ext he
 have b9 := b9.ext he
 have b12 := b12.ext he
 have b15 := b15.ext he
 clear he
 refine mixS 28 (by kernel_rfl) (by kernel_rfl) (by rfl) (by rfl) (fun K hK => ?_)
 go_wp2_with (go_at_call 13; refine (sameStore_v s14 s4).mono ?_; rintro e w15 ⟨rfl, he⟩)
 refine hK.out _ _ (he) ?_
 clear hK K
 try simp only [pA, pB, pC, pD]
 have hx := ext_trans hx he
 have hxB := ext_trans hxB he
 have s4 := s4.ext he
 have hd := hd.ext he
 have b5 := b5.ext he
 have b9 := b9.ext he
 have b12 := b12.ext he
 have b15 := b15.ext he
 clear he s14
 apply mixF 29 (by kernel_rfl) (by rfl) (by rfl)
 ·(intro w' hx; go_simp <;> with_reducible rfl)
 simp only [pA, pB, pC, pD]
 apply mixF 30 (by kernel_rfl) (by rfl) (by rfl)
 ·(intro w' hx; go_simp <;> with_reducible rfl)
 simp only [pA, pB, pC, pD]
 refine mixEnd (by kernel_rfl) ?_
 clear qe qn HFB
 obtain ⟨b5_0, b5_1, b5_2, b5_3⟩ := b5.c4
 have b5_z := b5.free
 have b5_l := b5.lt
 obtain ⟨b9_0, b9_1, b9_2, b9_3⟩ := b9.c4
 have b9_z := b9.free
 have b9_l := b9.lt
 go_wp2_with fail
 refine (stoDo_v s4 HG.out hd).mono ?_
 rintro e16 w16 ⟨v16, rfl, s16, he⟩
 try clear b5_0 b5_1 b5_2 b5_3 b5_z b5_l b9_0 b9_1 b9_2 b9_3 b9_z b9_l
 have hx := ext_trans hx he
 have hxB := ext_trans hxB he
 have s4 := s4.ext he
 have hd := hd.ext he
 have b5 := b5.ext he
 have b9 := b9.ext he
 have b12 := b12.ext he
 have b15 := b15.ext he
 clear he
 obtain ⟨A16, n16, c16, E16, m16, e16, F16, k16, f16, rfl, _, _, _, _, _, _, _, _⟩ := s16.form
 have kb := b12.kd
 obtain ⟨b12_0, b12_1, b12_2, b12_3⟩ := b12.c4
 have b12_z := b12.free
 have b12_l := b12.lt
 go_upto_region 9 with (fail)
 try clear b12_0 b12_1 b12_2 b12_3 b12_z b12_l
 generalize hwn : World.setCell (World.setCell (World.setCell (World.setCell w16 _ _) _ _) _ _) _ _ = w17
 have b5 : Box w17 gd 25 #[.int .i64 d.kind, .int .i64 d.key, .int .i64 d.n, .slice A0 n0 c0] := by rw [← hwn]; (repeat (with_reducible (first | assumption | refine Box.alloc ?_ _ | refine Box.setOther ?_ (by simp <;> omega) _)))
 have b9 : Box w17 g9 33 #[.slice A4 n4 c4, .slice E4 m4 e4, .slice F4 k4 f4, .int .i64 s.next] := by rw [← hwn]; (repeat (with_reducible (first | assumption | refine Box.alloc ?_ _ | refine Box.setOther ?_ (by simp <;> omega) _)))
 have b15 : Box w17 g15 33 #[.slice A8 n8 c8, .slice E8 m8 e8, .slice F8 k8 f8, .int .i64 y.next] := by rw [← hwn]; (repeat (with_reducible (first | assumption | refine Box.alloc ?_ _ | refine Box.setOther ?_ (by simp <;> omega) _)))
 have s4 := s4.kept (w' := w17) (by rw [← hwn]; (repeat (with_reducible (first | assumption | exact Kept.refl _ _ _ | (apply Kept.setK; rotate_left; (repeat (first | assumption | apply Kd.set | apply Kd.alloc | apply Kd.drew)); decide; omega) | refine Kept.allocK ?_ _ | refine Kept.drewK ?_))))
 have s16 := s16.kept (w' := w17) (by rw [← hwn]; (repeat (with_reducible (first | assumption | exact Kept.refl _ _ _ | (apply Kept.setK; rotate_left; (repeat (first | assumption | apply Kd.set | apply Kd.alloc | apply Kd.drew)); decide; omega) | refine Kept.allocK ?_ _ | refine Kept.drewK ?_))))
 have hd := hd.kept (w' := w17) (T := tS) (by rw [← hwn]; (repeat (with_reducible (first | assumption | exact Kept.refl _ _ _ | (apply Kept.setK; rotate_left; (repeat (first | assumption | apply Kd.set | apply Kd.alloc | apply Kd.drew)); decide; omega) | refine Kept.allocK ?_ _ | refine Kept.drewK ?_))))
 have hx : Ext w w17 := by rw [← hwn]; (repeat (with_reducible (first | assumption | exact Below.refl _ _ | refine Below.setCell ?_ (by simp <;> omega) _ | refine Below.alloc ?_ (by simp <;> omega) _ | refine Below.drew ?_ | refine below_drewN ?_ _)))
 have hxB : Ext w5 w17 := by rw [← hwn]; (repeat (with_reducible (first | assumption | exact Below.refl _ _ | refine Below.setCell ?_ (by simp <;> omega) _ | refine Below.alloc ?_ (by simp <;> omega) _ | refine Below.drew ?_ | refine below_drewN ?_ _)))
 have b12 : Box w17 g12 33 #[.slice A16 n16 c16, .slice E16 m16 e16, .slice F16 k16 f16, .int .i64 (sDo s d).1.next] := by rw [← hwn]; exact (((b12.set 0 _).set 1 _).set 2 _).set 3 _
 clear hwn kb
 obtain ⟨b5_0, b5_1, b5_2, b5_3⟩ := b5.c4
 have b5_z := b5.free
 have b5_l := b5.lt
 obtain ⟨b9_0, b9_1, b9_2, b9_3⟩ := b9.c4
 have b9_z := b9.free
 have b9_l := b9.lt
 go_wp2_with fail
 refine (refStoDo_v (by have := hxB.size; omega) s4 HG.out hd).mono ?_
 rintro e18 w18 ⟨v18, rfl, s18, he⟩
 try clear b5_0 b5_1 b5_2 b5_3 b5_z b5_l b9_0 b9_1 b9_2 b9_3 b9_z b9_l
 have hx := ext_trans hx he
 have hxB := ext_trans hxB he
 have s4 := s4.ext he
 have s16 := s16.ext he
 have b5 := b5.ext he
 have b9 := b9.ext he
 have b12 := b12.ext he
 have b15 := b15.ext he
 clear he
 clear hd b5
 obtain ⟨A18, n18, c18, E18, m18, e18, F18, k18, f18, rfl, _, _, _, _, _, _, _, _⟩ := s18.form
 have kb := b15.kd
 obtain ⟨b15_0, b15_1, b15_2, b15_3⟩ := b15.c4
 have b15_z := b15.free
 have b15_l := b15.lt
 go_upto_region 10 with (fail)
 try clear b15_0 b15_1 b15_2 b15_3 b15_z b15_l
 generalize hwn : World.setCell (World.setCell (World.setCell (World.setCell w18 _ _) _ _) _ _) _ _ = w19
 have b9 : Box w19 g9 33 #[.slice A4 n4 c4, .slice E4 m4 e4, .slice F4 k4 f4, .int .i64 s.next] := by rw [← hwn]; (repeat (with_reducible (first | assumption | refine Box.alloc ?_ _ | refine Box.setOther ?_ (by simp <;> omega) _)))
 have b12 : Box w19 g12 33 #[.slice A16 n16 c16, .slice E16 m16 e16, .slice F16 k16 f16, .int .i64 (sDo s d).1.next] := by rw [← hwn]; (repeat (with_reducible (first | assumption | refine Box.alloc ?_ _ | refine Box.setOther ?_ (by simp <;> omega) _)))
 have s4 := s4.kept (w' := w19) (by rw [← hwn]; (repeat (with_reducible (first | assumption | exact Kept.refl _ _ _ | (apply Kept.setK; rotate_left; (repeat (first | assumption | apply Kd.set | apply Kd.alloc | apply Kd.drew)); decide; omega) | refine Kept.allocK ?_ _ | refine Kept.drewK ?_))))
 have s16 := s16.kept (w' := w19) (by rw [← hwn]; (repeat (with_reducible (first | assumption | exact Kept.refl _ _ _ | (apply Kept.setK; rotate_left; (repeat (first | assumption | apply Kd.set | apply Kd.alloc | apply Kd.drew)); decide; omega) | refine Kept.allocK ?_ _ | refine Kept.drewK ?_))))
 have s18 := s18.kept (w' := w19) (by rw [← hwn]; (repeat (with_reducible (first | assumption | exact Kept.refl _ _ _ | (apply Kept.setK; rotate_left; (repeat (first | assumption | apply Kd.set | apply Kd.alloc | apply Kd.drew)); decide; omega) | refine Kept.allocK ?_ _ | refine Kept.drewK ?_))))
 have hx : Ext w w19 := by rw [← hwn]; (repeat (with_reducible (first | assumption | exact Below.refl _ _ | refine Below.setCell ?_ (by simp <;> omega) _ | refine Below.alloc ?_ (by simp <;> omega) _ | refine Below.drew ?_ | refine below_drewN ?_ _)))
 have b15 : Box w19 g15 33 #[.slice A18 n18 c18, .slice E18 m18 e18, .slice F18 k18 f18, .int .i64 (sDo s d).1.next] := by rw [← hwn]; exact (((b15.set 0 _).set 1 _).set 2 _).set 3 _
 clear hwn kb hxB
 generalize (sDo s d).1 = y at s16 s18 b12 b15
 generalize (sDo s d).2.1 = nn
 generalize (sDo s d).2.2 = qq
 have qe : (qq != qq) = false := by simp
 have qn : (nn != nn) = false := by simp
 obtain ⟨b12_0, b12_1, b12_2, b12_3⟩ := b12.c4
 have b12_z := b12.free
 have b12_l := b12.lt
 obtain ⟨b15_0, b15_1, b15_2, b15_3⟩ := b15.c4
 have b15_z := b15.free
 have b15_l := b15.lt
 go_wp2_with fail
 refine (sameStore_v s16 s18).mono ?_
 rintro e20 w20 ⟨rfl, he⟩
 try clear b12_0 b12_1 b12_2 b12_3 b12_z b12_l b15_0 b15_1 b15_2 b15_3 b15_z b15_l
 have hx := ext_trans hx he
 have s4 := s4.ext he
 have b9 := b9.ext he
 have b12 := b12.ext he
 have b15 := b15.ext he
 clear he
 clear s16 s18 b12 b15 qe qn
 obtain ⟨b9_0, b9_1, b9_2, b9_3⟩ := b9.c4
 have b9_z := b9.free
 have b9_l := b9.lt
 go_wp2_with fail
 refine (stoGet_v (key := key) s4 HG.out.fine HG.out.right).mono ?_
 rintro e21 w21 ⟨v21, q21, rfl, HQ1, hy1, he⟩
 try clear b9_0 b9_1 b9_2 b9_3 b9_z b9_l
 have hx := ext_trans hx he
 have s4 := s4.ext he
 have b9 := b9.ext he
 clear he
 obtain ⟨b9_0, b9_1, b9_2, b9_3⟩ := b9.c4
 have b9_z := b9.free
 have b9_l := b9.lt
 go_wp2_with fail
 refine (refRecs_v s4 HG.out.fine.len).mono ?_
 rintro e22 w22 ⟨v22, rfl, o22, he⟩
 try clear b9_0 b9_1 b9_2 b9_3 b9_z b9_l
 have hx := ext_trans hx he
 have s4 := s4.ext he
 have hy1 := hy1.ext he
 have b9 := b9.ext he
 clear he
 go_wp2_with fail
 refine (rGet_v (key := key) (o22.row (T := [51]) (by decide) (Nat.le_refl _)) (sRecs_right HG.out.right)).mono ?_
 rintro e23 w23 ⟨v23, q23, rfl, HQ2, hy2, he⟩
 have hx := ext_trans hx he
 have s4 := s4.ext he
 have hy1 := hy1.ext he
 have b9 := b9.ext he
 clear he
 clear o22
 have hqq : q21 = q23 := HQ1.out.trans HQ2.out.symm
 have hy1 : ByT w23 _ v21 (mGet (sRecs s) key).1 := hy1
 clear HQ1 HQ2
 subst hqq
 generalize (mGet (sRecs s) key).1 = bs at hy1 hy2
 obtain ⟨A21, n21, c21, rfl, hy1, _⟩ := hy1.form
 obtain ⟨A23, n23, c23, rfl, hy2, _⟩ := hy2.form
 have cv1 := run_str hy1
 have cv2 := run_str hy2
 have qe : (q21 != q21) = false := by simp
 go_upto_region 16 with (fail)
 clear qe cv1 cv2 hy1 hy2
 have hd0 : Ext w23 w23.drew := (Below.refl _ _).drew
 have hx := ext_trans hx hd0
 have s4 := s4.ext hd0
 have b9 := b9.ext hd0
 clear hd0
 refine wp_region_ext 10 [0, 1, 2, 4, 5, 6, 8, 9] false rfl (by kernel_rfl) (by kernel_rfl) ?_
 generalize w23.drew = D at hx s4 b9 ⊢
 apply mixF 0 (by kernel_rfl) (by rfl) (by rfl)
 ·(intro w' hx; obtain ⟨y0, y1, y2, y3⟩ := (b9.ext hx).c4; go_simp <;> with_reducible rfl)
 simp only [pA, pB, pC, pD]
 apply mixF 1 (by kernel_rfl) (by rfl) (by rfl)
 ·(intro w' hx; obtain ⟨y0, y1, y2, y3⟩ := (b9.ext hx).c4; go_simp <;> with_reducible rfl)
 simp only [pA, pB, pC, pD]
 apply mixF 2 (by kernel_rfl) (by rfl) (by rfl)
 ·(intro w' hx; obtain ⟨y0, y1, y2, y3⟩ := (b9.ext hx).c4; go_simp <;> with_reducible rfl)
 simp only [pA, pB, pC, pD]
 apply mixF 4 (by kernel_rfl) (by rfl) (by rfl)
 ·(intro w' hx; obtain ⟨y0, y1, y2, y3⟩ := (b9.ext hx).c4; go_simp <;> with_reducible rfl)
 simp only [pA, pB, pC, pD]
 apply mixF 5 (by kernel_rfl) (by rfl) (by rfl)
 ·(intro w' hx; obtain ⟨y0, y1, y2, y3⟩ := (b9.ext hx).c4; go_simp <;> with_reducible rfl)
 simp only [pA, pB, pC, pD]
 apply mixF 6 (by kernel_rfl) (by rfl) (by rfl)
 ·(intro w' hx; obtain ⟨y0, y1, y2, y3⟩ := (b9.ext hx).c4; go_simp <;> with_reducible rfl)
 simp only [pA, pB, pC, pD]
 refine mixS 3 (by kernel_rfl) (by kernel_rfl) (by rfl) (by rfl) (fun K hK => ?_)
 go_wp2_with (go_at_call 27; refine (stoList_v (st := key) (mo := most) s4 HG.out.fine HG.out.right).mono ?_; rintro e w24 ⟨v24, rfl, o24, he⟩)
 refine hK.out _ _ (he) ?_
 clear hK K
 try simp only [pA, pB, pC, pD]
 have r24 := o24.row (T := [3]) (base' := 0) (by decide) (Nat.le_refl _)
 clear o24
 have hx := ext_trans hx he
 have s4 := s4.ext he
 have b9 := b9.ext he
 clear he
 refine mixS 7 (by kernel_rfl) (by kernel_rfl) (by rfl) (by rfl) (fun K hK => ?_)
 go_wp2_with (go_at_call 28; refine (refList_v (st := key) (mo := most) s4 HG.out.fine HG.out.right).mono ?_; rintro e w25 ⟨v25, rfl, o25, he⟩)
 refine hK.out _ _ (he) ?_
 clear hK K
 try simp only [pA, pB, pC, pD]
 have r25 := o25.row (T := [3]) (base' := 0) (by decide) (Nat.le_refl _)
 clear o25
 rw [list_same HG.out.right] at r25
 have hx := ext_trans hx he
 have s4 := s4.ext he
 have b9 := b9.ext he
 have r24 := r24.ext he
 clear he
 apply mixF 8 (by kernel_rfl) (by rfl) (by rfl)
 ·(intro w' hx; go_simp <;> with_reducible rfl)
 simp only [pA, pB, pC, pD]
 apply mixF 9 (by kernel_rfl) (by rfl) (by rfl)
 ·(intro w' hx; go_simp <;> with_reducible rfl)
 simp only [pA, pB, pC, pD]
 refine mixEnd (by kernel_rfl) ?_
 generalize sList s key most = ks at r24 r25
 obtain ⟨A24, n24, c24, rfl, _, hm24, HN24⟩ := r24.form
 obtain ⟨A25, n25, c25, rfl, _, hm25, HN25⟩ := r25.form
 obtain rfl : n24 = n25 := HN24.out.trans HN25.out.symm
 unfold maxLen at hm24
 clear hm25
 go_upto_region 17 with (fail)
 have hd0 : Ext w25 w25.drew := (Below.refl _ _).drew
 have hx := ext_trans hx hd0
 have s4 := s4.ext hd0
 have b9 := b9.ext hd0
 have r24 := r24.ext hd0
 have r25 := r25.ext hd0
 clear hd0
 refine wp_region_ext 14 [0, 1, 2, 3, 4, 5, 6, 8, 9, 11, 12, 13] false rfl (by kernel_rfl) (by kernel_rfl) ?_
 generalize w25.drew = D at hx s4 b9 r24 r25 ⊢
 apply mixF 0 (by kernel_rfl) (by rfl) (by rfl)
 ·(intro w' hx; obtain ⟨y0, y1, y2, y3⟩ := (b9.ext hx).c4; go_simp <;> with_reducible rfl)
 simp only [pA, pB, pC, pD]
 apply mixF 1 (by kernel_rfl) (by rfl) (by rfl)
 ·(intro w' hx; obtain ⟨y0, y1, y2, y3⟩ := (b9.ext hx).c4; go_simp <;> with_reducible rfl)
 simp only [pA, pB, pC, pD]
 apply mixF 2 (by kernel_rfl) (by rfl) (by rfl)
 ·(intro w' hx; obtain ⟨y0, y1, y2, y3⟩ := (b9.ext hx).c4; go_simp <;> with_reducible rfl)
 simp only [pA, pB, pC, pD]
 apply mixF 3 (by kernel_rfl) (by rfl) (by rfl)
 ·(intro w' hx; obtain ⟨y0, y1, y2, y3⟩ := (b9.ext hx).c4; go_simp <;> with_reducible rfl)
 simp only [pA, pB, pC, pD]
 apply mixF 4 (by kernel_rfl) (by rfl) (by rfl)
 ·(intro w' hx; obtain ⟨y0, y1, y2, y3⟩ := (b9.ext hx).c4; go_simp <;> with_reducible rfl)
 simp only [pA, pB, pC, pD]
 apply mixF 5 (by kernel_rfl) (by rfl) (by rfl)
 ·(intro w' hx; obtain ⟨y0, y1, y2, y3⟩ := (b9.ext hx).c4; go_simp <;> with_reducible rfl)
 simp only [pA, pB, pC, pD]
 apply mixF 6 (by kernel_rfl) (by rfl) (by rfl)
 ·(intro w' hx; obtain ⟨y0, y1, y2, y3⟩ := (b9.ext hx).c4; go_simp <;> with_reducible rfl)
 simp only [pA, pB, pC, pD]
 apply mixF 9 (by kernel_rfl) (by rfl) (by rfl)
 ·(intro w' hx; obtain ⟨y0, y1, y2, y3⟩ := (b9.ext hx).c4; go_simp <;> with_reducible rfl)
 simp only [pA, pB, pC, pD]
 refine mixS 7 (by kernel_rfl) (by kernel_rfl) (by rfl) (by rfl) (fun K hK => ?_)
 go_wp2_with (go_at_call 29; refine (stoRecs_v s4 HG.out.fine.len HG.out.fine.small).mono ?_; rintro e w26 ⟨v26, rfl, o26, he⟩)
 refine hK.out _ _ (he) ?_
 clear hK K
 try simp only [pA, pB, pC, pD]
 obtain ⟨A26, n26, c26, rfl, _, _, HN26⟩ := o26.form
 clear o26
 have hx := ext_trans hx he
 have s4 := s4.ext he
 have b9 := b9.ext he
 have r24 := r24.ext he
 have r25 := r25.ext he
 clear he
 apply mixF 8 (by kernel_rfl) (by rfl) (by rfl)
 ·(intro w' hx; go_simp <;> with_reducible rfl)
 simp only [pA, pB, pC, pD]
 refine mixS 10 (by kernel_rfl) (by kernel_rfl) (by rfl) (by rfl) (fun K hK => ?_)
 go_wp2_with (go_at_call 26; refine (refRecs_v s4 HG.out.fine.len).mono ?_; rintro e w27 ⟨v27, rfl, o27, he⟩)
 refine hK.out _ _ (he) ?_
 clear hK K
 try simp only [pA, pB, pC, pD]
 obtain ⟨A27, n27, c27, rfl, _, _, HN27⟩ := o27.form
 clear o27
 obtain rfl : n26 = n27 := HN26.out.trans HN27.out.symm
 clear HN26 HN27
 have hx := ext_trans hx he
 have s4 := s4.ext he
 have b9 := b9.ext he
 have r24 := r24.ext he
 have r25 := r25.ext he
 clear he
 apply mixF 11 (by kernel_rfl) (by rfl) (by rfl)
 ·(intro w' hx; go_simp <;> with_reducible rfl)
 simp only [pA, pB, pC, pD]
 apply mixF 12 (by kernel_rfl) (by rfl) (by rfl)
 ·(intro w' hx; go_simp <;> with_reducible rfl)
 simp only [pA, pB, pC, pD]
 apply mixF 13 (by kernel_rfl) (by rfl) (by rfl)
 ·(intro w' hx; go_simp <;> with_reducible rfl)
 simp only [pA, pB, pC, pD]
 refine mixEnd (by kernel_rfl) ?_
 go_upto_region 20 with (fail)
 go_loopw [155] (fun i wr => ∃ a : Nat, a ≤ n24 ∧ i = .int .i64 a ∧ Ext w27 wr) (fun i _ => n24 - (intOf i).toNat)
 case atStart => exact ⟨0, by omega, rfl, Below.refl _ _⟩
 case round =>
  obtain ⟨a, ha, rfl, hxd⟩ := hrel
  obtain ⟨wz, rfl⟩ : ∃ x, x = wr := ⟨_, rfl⟩
  have hx := ext_trans hx hxd
  have s4 := s4.ext hxd
  have b9 := b9.ext hxd
  by_cases hlt : a < n24
  ·have i0 : (0 : Int) ≤ (a : Int) := by omega
   have i1 : (a : Int) < (n24 : Int) := by omega
   obtain ⟨g1, o1, rfl, hg1, c1⟩ := (r24.ext hxd).int_at hlt
   obtain ⟨g2, o2, rfl, hg2, c2⟩ := (r25.ext hxd).int_at hlt
   generalize ks.getD a 0 = z at c1 c2
   have qz : (z != z) = false := by simp
   go_upto_region 22 with (fail)
   have hd0 : Ext wz wz.drew := (Below.refl _ _).drew
   have c1 := (hd0.cell (p := ⟨g1, o1 + a, none⟩) hg1).trans c1
   have c2 := (hd0.cell (p := ⟨g2, o2 + a, none⟩) hg2).trans c2
   have hg1 := Nat.lt_of_lt_of_le hg1 hd0.size
   have hg2 := Nat.lt_of_lt_of_le hg2 hd0.size
   have hxd := ext_trans hxd hd0
   clear hd0 hx s4 b9
   refine wp_region_ext 9 [0, 1, 2, 3, 4, 5, 6, 7, 8] false rfl (by kernel_rfl) (by kernel_rfl) ?_
   generalize wz.drew = D at hxd c1 c2 hg1 hg2 ⊢
   apply mixF 0 (by kernel_rfl) (by rfl) (by rfl)
   ·(intro w' hx; have x1 := (hx.cell (p := ⟨g1, o1 + a, none⟩) hg1).trans c1; have x2 := (hx.cell (p := ⟨g2, o2 + a, none⟩) hg2).trans c2; go_simp <;> with_reducible rfl)
   simp only [pA, pB, pC, pD]
   apply mixF 1 (by kernel_rfl) (by rfl) (by rfl)
   ·(intro w' hx; have x1 := (hx.cell (p := ⟨g1, o1 + a, none⟩) hg1).trans c1; have x2 := (hx.cell (p := ⟨g2, o2 + a, none⟩) hg2).trans c2; go_simp <;> with_reducible rfl)
   simp only [pA, pB, pC, pD]
   apply mixF 2 (by kernel_rfl) (by rfl) (by rfl)
   ·(intro w' hx; have x1 := (hx.cell (p := ⟨g1, o1 + a, none⟩) hg1).trans c1; have x2 := (hx.cell (p := ⟨g2, o2 + a, none⟩) hg2).trans c2; go_simp <;> with_reducible rfl)
   simp only [pA, pB, pC, pD]
   apply mixF 3 (by kernel_rfl) (by rfl) (by rfl)
   ·(intro w' hx; have x1 := (hx.cell (p := ⟨g1, o1 + a, none⟩) hg1).trans c1; have x2 := (hx.cell (p := ⟨g2, o2 + a, none⟩) hg2).trans c2; go_simp <;> with_reducible rfl)
   simp only [pA, pB, pC, pD]
   apply mixF 4 (by kernel_rfl) (by rfl) (by rfl)
   ·(intro w' hx; have x1 := (hx.cell (p := ⟨g1, o1 + a, none⟩) hg1).trans c1; have x2 := (hx.cell (p := ⟨g2, o2 + a, none⟩) hg2).trans c2; go_simp <;> with_reducible rfl)
   simp only [pA, pB, pC, pD]
   apply mixF 5 (by kernel_rfl) (by rfl) (by rfl)
   ·(intro w' hx; have x1 := (hx.cell (p := ⟨g1, o1 + a, none⟩) hg1).trans c1; have x2 := (hx.cell (p := ⟨g2, o2 + a, none⟩) hg2).trans c2; go_simp <;> with_reducible rfl)
   simp only [pA, pB, pC, pD]
   apply mixF 6 (by kernel_rfl) (by rfl) (by rfl)
   ·(intro w' hx; have x1 := (hx.cell (p := ⟨g1, o1 + a, none⟩) hg1).trans c1; have x2 := (hx.cell (p := ⟨g2, o2 + a, none⟩) hg2).trans c2; go_simp <;> with_reducible rfl)
   simp only [pA, pB, pC, pD]
   apply mixF 7 (by kernel_rfl) (by rfl) (by rfl)
   ·(intro w' hx; have x1 := (hx.cell (p := ⟨g1, o1 + a, none⟩) hg1).trans c1; have x2 := (hx.cell (p := ⟨g2, o2 + a, none⟩) hg2).trans c2; go_simp <;> with_reducible rfl)
   simp only [pA, pB, pC, pD]
   apply mixF 8 (by kernel_rfl) (by rfl) (by rfl)
   ·(intro w' hx; have x1 := (hx.cell (p := ⟨g1, o1 + a, none⟩) hg1).trans c1; have x2 := (hx.cell (p := ⟨g2, o2 + a, none⟩) hg2).trans c2; go_simp <;> with_reducible rfl)
   simp only [pA, pB, pC, pD]
   refine mixEnd (by kernel_rfl) ?_
   clear c1 c2 hg1 hg2
   go_wp2_with fail
   refine ⟨⟨a + 1, by omega, rfl, hxd⟩, ?_⟩
   simp only [intOf]
   omega
  ·obtain rfl : a = n24 := by omega
   clear r24 r25 hxd
   obtain ⟨b9_0, b9_1, b9_2, b9_3⟩ := b9.c4
   have b9_z := b9.free
   have b9_l := b9.lt
   go_wp2_with fail
   refine (stoRecs_v s4 HG.out.fine.len HG.out.fine.small).mono ?_
   rintro e28 w28 ⟨v28, rfl, o28, he⟩
   try clear b9_0 b9_1 b9_2 b9_3 b9_z b9_l
   have hx := ext_trans hx he
   have s4 := s4.ext he
   have b9 := b9.ext he
   clear he
   have r28 := o28.row (T := [51]) (base' := 0) (by decide) (Nat.le_refl _)
   clear o28
   obtain ⟨_, _, _, _, _, _, _, _, _, ev, _, hi, _, _, HK, _, _, _⟩ := s4.form
   cases ev
   obtain ⟨A28, n28, c28, rfl, _, hm28, HN28⟩ := r28.form
   unfold maxLen at hm28
   have HNK : Hid (n28 = k4) := Lib.hid (by rw [HN28.out, HK.out]; unfold sRecs; rw [List.length_map])
   obtain rfl := HNK.out
   clear HNK
   go_upto_region 26 with (fail)
   go_loopw [171] (fun i wq => ∃ b : Nat, b ≤ n28 ∧ i = .int .i64 b ∧ Ext w28 wq) (fun i _ => n28 - (intOf i).toNat)
   case atStart => exact ⟨0, by omega, rfl, Below.refl _ _⟩
   case round =>
    obtain ⟨b, hb, rfl, hxq⟩ := hrel
    by_cases hlb : b < n28
    ·have i0 : (0 : Int) ≤ (b : Int) := by omega
     have i1 : (b : Int) < (n28 : Int) := by omega
     have HX := Lib.hid (recs_getD (l := s.index) (i := b) (by rw [← HK.out]; exact hlb))
     obtain ⟨g1, o1, u1, rfl, hg1, hu1, f1⟩ := r28.rec_x hlb
     obtain ⟨g2, o2, u2, rfl, hg2, hu2, f2⟩ := hi.ent_x hlb
     rw [show (sRecs s).getD b rZero = (s.index.getD b ⟨rZero, 0⟩).rcd from HX.out] at hu1 f1
     generalize s.index.getD b ⟨rZero, 0⟩ = x at hu1 f1 hu2 f2
     obtain ⟨A30, n30, c30, rfl, _, _⟩ := hu1.form
     obtain ⟨A31, n31, c31, rfl, _, _⟩ := hu2.form
     obtain ⟨x0, x1, x2, x3⟩ := f1 _ hxq
     have b9 := b9.ext hxq
     have hu1 := hu1.ext hxq
     have hu2 := hu2.ext hxq
     clear f1 hg1 HX
     go_upto_region 28 with (fail)
     generalize hwn : World.alloc wr _ = w30
     have he : Ext wr w30 := by rw [← hwn]; exact ext_alloc _ _
     have b24 : Box w30 wr.heap.size 51 #[.int .i64 x.rcd.kind, .int .i64 x.rcd.key, .int .i64 x.rcd.ver, .slice A30 n30 c30] := by rw [← hwn]; exact Box.new _ _ _ (by simp)
     clear hwn x0 x1 x2 x3
     have he := he.drew
     have hxq := ext_trans hxq he
     have b9 := b9.ext he
     have hu1 := hu1.ext he
     have hu2 := hu2.ext he
     have b24 := b24.drew
     clear he
     obtain ⟨g24, hg24⟩ : ∃ g, g = wr.heap.size := ⟨_, rfl⟩
     rw [← hg24] at b24 ⊢
     clear hg24
     refine wp_region_ext 9 [0, 1, 2, 3, 4, 5, 6, 8] false rfl (by kernel_rfl) (by kernel_rfl) ?_
     have F2 := fun w' (hx : Ext w30.drew w') => f2 w' (ext_trans hxq hx)
     clear f2
     generalize w30.drew = D at hxq b9 b24 hu1 hu2 F2 ⊢
     apply mixF 0 (by kernel_rfl) (by rfl) (by rfl)
     ·(intro w' hx; obtain ⟨x0, x1, x2, x3⟩ := (b24.ext hx).c4; obtain ⟨y0, y1, y2, y3⟩ := (b9.ext hx).c4; obtain ⟨z0, z1, z2, z3, z4⟩ := F2 w' hx; go_simp <;> with_reducible rfl)
     simp only [pA, pB, pC, pD]
     apply mixF 1 (by kernel_rfl) (by rfl) (by rfl)
     ·(intro w' hx; obtain ⟨x0, x1, x2, x3⟩ := (b24.ext hx).c4; obtain ⟨y0, y1, y2, y3⟩ := (b9.ext hx).c4; obtain ⟨z0, z1, z2, z3, z4⟩ := F2 w' hx; go_simp <;> with_reducible rfl)
     simp only [pA, pB, pC, pD]
     apply mixF 2 (by kernel_rfl) (by rfl) (by rfl)
     ·(intro w' hx; obtain ⟨x0, x1, x2, x3⟩ := (b24.ext hx).c4; obtain ⟨y0, y1, y2, y3⟩ := (b9.ext hx).c4; obtain ⟨z0, z1, z2, z3, z4⟩ := F2 w' hx; go_simp <;> with_reducible rfl)
     simp only [pA, pB, pC, pD]
     apply mixF 3 (by kernel_rfl) (by rfl) (by rfl)
     ·(intro w' hx; obtain ⟨x0, x1, x2, x3⟩ := (b24.ext hx).c4; obtain ⟨y0, y1, y2, y3⟩ := (b9.ext hx).c4; obtain ⟨z0, z1, z2, z3, z4⟩ := F2 w' hx; go_simp <;> with_reducible rfl)
     simp only [pA, pB, pC, pD]
     apply mixF 4 (by kernel_rfl) (by rfl) (by rfl)
     ·(intro w' hx; obtain ⟨x0, x1, x2, x3⟩ := (b24.ext hx).c4; obtain ⟨y0, y1, y2, y3⟩ := (b9.ext hx).c4; obtain ⟨z0, z1, z2, z3, z4⟩ := F2 w' hx; go_simp <;> with_reducible rfl)
     simp only [pA, pB, pC, pD]
     apply mixF 5 (by kernel_rfl) (by rfl) (by rfl)
     ·(intro w' hx; obtain ⟨x0, x1, x2, x3⟩ := (b24.ext hx).c4; obtain ⟨y0, y1, y2, y3⟩ := (b9.ext hx).c4; obtain ⟨z0, z1, z2, z3, z4⟩ := F2 w' hx; go_simp <;> with_reducible rfl)
     simp only [pA, pB, pC, pD]
     apply mixF 6 (by kernel_rfl) (by rfl) (by rfl)
     ·(intro w' hx; obtain ⟨x0, x1, x2, x3⟩ := (b24.ext hx).c4; obtain ⟨y0, y1, y2, y3⟩ := (b9.ext hx).c4; obtain ⟨z0, z1, z2, z3, z4⟩ := F2 w' hx; go_simp <;> with_reducible rfl)
     simp only [pA, pB, pC, pD]
     clear F2
     refine mixS 7 (by kernel_rfl) (by kernel_rfl) (by rfl) (by rfl) (fun K hK => ?_)
     go_wp2_with (go_at_call 30; refine (refSame_v (r := x.rcd) (s := x.rcd) ⟨_, rfl, hu1⟩ ⟨_, rfl, hu2⟩).mono ?_; rintro e w31 ⟨rfl, he⟩)
     refine hK.out _ _ (he) ?_
     clear hK K
     try simp only [pA, pB, pC, pD]
     rw [rSame_id]
     have hxq := ext_trans hxq he
     clear he
     apply mixF 8 (by kernel_rfl) (by rfl) (by rfl)
     ·(intro w' hx; go_simp <;> with_reducible rfl)
     simp only [pA, pB, pC, pD]
     refine mixEnd (by kernel_rfl) ?_
     go_wp2_with fail
     refine ⟨⟨b + 1, by omega, rfl, hxq⟩, ?_⟩
     simp only [intOf]
     omega
    ·obtain rfl : b = n28 := by omega
     go_wp2_with fail
     go_ret
     exact ⟨rfl, ext_trans hx hxq⟩
end Go.Proofs.YtmcgbdbhpnplmaaGreat
