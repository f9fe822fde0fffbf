/- The statement MayTells: the walk of the law. -/
import Derived.Test.YtmcgbdbhpnplmaaGreatSt9
import Derived.Test.YtmcgbdbhpnplmaaGreatMayFew
namespace Go.Proofs.YtmcgbdbhpnplmaaGreat
open Go Go.RowKit
set_option maxRecDepth 100000 in
set_option maxHeartbeats 4000000 in
theorem mayTells_law (w : World) {v rv xv : Value} {l : List Stp} {recs : List Rec} {x : Stp} (hl : Row eStp [] w w.heap.size v l) (hm : Row eRec [] w w.heap.size rv recs) (hs : StpV w w.heap.size xv x) :
  Calls Tryz.prog 10 #[v, rv, xv] w fun e w' => e = .returned (.bool true) ∧ Ext w w' := by
 obtain ⟨A, n, c, rfl, _, hcm, HN⟩ := hl.form
 unfold maxLen at hcm
 obtain ⟨Am, nm, cm, rfl, _, _, _⟩ := hm.form
 obtain ⟨A0, n0, c0, rfl, _, _⟩ := hs.at_
 go_enter Tryz.func10, Tryz.ntmps10
 have hlw := hl
 have hmw := hm
 have hsw := hs
 go_upto_region 1 with (fail)
 generalize hwn : World.alloc w _ = w0
 have hx : Ext w w0 := by rw [← hwn]; exact ext_alloc _ _
 have b5 : Box w0 w.heap.size 67 #[.int .i64 x.kind, .int .i64 x.n, .int .i64 x.m, .int .i64 x.deed.kind, .int .i64 x.deed.key, .int .i64 x.deed.n, .slice A0 n0 c0] := by rw [← hwn]; exact Box.new _ _ _ rfl
 clear hwn
 have hl := hl.ext hx
 have hs := hs.ext hx
 obtain ⟨gd, hgd⟩ : ∃ g, g = w.heap.size := ⟨_, rfl⟩
 rw [show Box w0 w.heap.size 67 #[.int .i64 x.kind, .int .i64 x.n, .int .i64 x.m, .int .i64 x.deed.kind, .int .i64 x.deed.key, .int .i64 x.deed.n, .slice A0 n0 c0] ↔ Box w0 gd 67 #[.int .i64 x.kind, .int .i64 x.n, .int .i64 x.m, .int .i64 x.deed.kind, .int .i64 x.deed.key, .int .i64 x.deed.n, .slice A0 n0 c0] by rw [hgd]] at b5
 rw [← hgd]
 clear hgd
 clear hm
 go_wp2_with fail
 refine (refPlay_v hl).mono ?_
 rintro e1 w1 ⟨v1, es, ns, rfl, s1, _, _, he⟩
 have hx := ext_trans hx he
 have hs := hs.ext he
 have b5 := b5.ext he
 clear he
 clear hl
 have HG := Lib.hid (yPlay_good (l.take 100))
 generalize yPlay (l.take 100) = s at s1 HG
 obtain ⟨A1, n1, c1, E1, m1, e1, F1, k1, f1, rfl, _, _, _, _, _, _, _, _⟩ := s1.form
 go_upto_region 2 with (fail)
 generalize hwn : World.alloc w1 _ = w2
 have he : Ext w1 w2 := by rw [← hwn]; exact ext_alloc _ _
 have b7 : Box w2 w1.heap.size 33 #[.slice A1 n1 c1, .slice E1 m1 e1, .slice F1 k1 f1, .int .i64 s.next] := by rw [← hwn]; exact Box.new _ _ _ (by simp)
 clear hwn
 have hx := ext_trans hx he
 have hs := hs.ext he
 have s1 := s1.ext he
 have b5 := b5.ext he
 clear he
 obtain ⟨g7, hgk⟩ : ∃ g, g = w1.heap.size := ⟨_, rfl⟩
 rw [← hgk] at b7 ⊢
 clear hgk
 have hd0 : Ext w2 w2.drew := (Below.refl _ _).drew
 have hx := ext_trans hx hd0
 have hs := hs.ext hd0
 have s1 := s1.ext hd0
 have b5 := b5.ext hd0
 have b7 := b7.ext hd0
 clear hd0
 have qg : (gentle s x != gentle s x) = false := by simp
 refine wp_region_ext 7 [0, 1, 3, 4, 6] false rfl (by kernel_rfl) (by kernel_rfl) ?_
 generalize w2.drew = D at hx hs s1 b5 b7 ⊢
 apply mixF 0 (by kernel_rfl) (by rfl) (by rfl)
 ·(intro w' hx; obtain ⟨x0, x1, x2, x3⟩ := (b7.ext hx).c4; obtain ⟨y0, y1, y2, y3, y4, y5, y6⟩ := (b5.ext hx).c7; go_simp <;> with_reducible rfl)
 simp only [pA, pB, pC, pD]
 apply mixF 1 (by kernel_rfl) (by rfl) (by rfl)
 ·(intro w' hx; obtain ⟨x0, x1, x2, x3⟩ := (b7.ext hx).c4; obtain ⟨y0, y1, y2, y3, y4, y5, y6⟩ := (b5.ext hx).c7; go_simp <;> with_reducible rfl)
 simp only [pA, pB, pC, pD]
 apply mixF 3 (by kernel_rfl) (by rfl) (by rfl)
 ·(intro w' hx; obtain ⟨x0, x1, x2, x3⟩ := (b7.ext hx).c4; obtain ⟨y0, y1, y2, y3, y4, y5, y6⟩ := (b5.ext hx).c7; go_simp <;> with_reducible rfl)
 simp only [pA, pB, pC, pD]
 apply mixF 4 (by kernel_rfl) (by rfl) (by rfl)
 ·(intro w' hx; obtain ⟨x0, x1, x2, x3⟩ := (b7.ext hx).c4; obtain ⟨y0, y1, y2, y3, y4, y5, y6⟩ := (b5.ext hx).c7; go_simp <;> with_reducible rfl)
 simp only [pA, pB, pC, pD]
 refine mixS 2 (by kernel_rfl) (by kernel_rfl) (by rfl) (by rfl) (fun K hK => ?_)
 go_wp2_with (go_at_call 45; refine (mayGentle_v s1 HG.out hs).mono ?_; rintro e w3 ⟨rfl, he⟩)
 refine hK.out _ _ (he) ?_
 clear hK K
 try simp only [pA, pB, pC, pD]
 have hx := ext_trans hx he
 have hs := hs.ext he
 have s1 := s1.ext he
 have b5 := b5.ext he
 clear he b7
 refine mixS 5 (by kernel_rfl) (by kernel_rfl) (by rfl) (by rfl) (fun K hK => ?_)
 go_wp2_with (go_at_call 41; refine (refGentle_v s1 HG.out hs).mono ?_; rintro e w4 ⟨rfl, he⟩)
 refine hK.out _ _ (he) ?_
 clear hK K
 try simp only [pA, pB, pC, pD]
 have hx := ext_trans hx he
 have b5 := b5.ext he
 clear he s1 hs
 apply mixF 6 (by kernel_rfl) (by rfl) (by rfl)
 ·(intro w' hx; go_simp <;> with_reducible rfl)
 simp only [pA, pB, pC, pD]
 refine mixEnd (by kernel_rfl) ?_
 clear HG
 go_wp2_with fail
 refine (refStoNew_v _).mono ?_
 rintro e5 w5 ⟨v5, rfl, s5, he⟩
 have hx := ext_trans hx he
 have b5 := b5.ext he
 clear he
 clear qg
 obtain ⟨A2, n2, c2, E2, m2, e2, F2, k2, f2, rfl, _, _, _, _, _, _, _, _⟩ := s5.form
 go_upto_region 5 with (fail)
 generalize hwn : World.alloc w5 _ = w6
 have he : Ext w5 w6 := by rw [← hwn]; exact ext_alloc _ _
 have b10 : Box w6 w5.heap.size 33 #[.slice A2 n2 c2, .slice E2 m2 e2, .slice F2 k2 f2, .int .i64 sNew.next] := by rw [← hwn]; exact Box.new _ _ _ (by simp)
 clear hwn
 have l10 := b5.lt
 have z10 := hx.size
 have hx := ext_trans hx he
 have s5 := s5.ext he
 have b5 := b5.ext he
 clear he
 obtain ⟨g10, hg10⟩ : ∃ g, g = w5.heap.size := ⟨_, rfl⟩
 rw [← hg10] at b10 l10 z10 ⊢
 clear hg10
 have s5 := s5.sub (T' := tS) (base' := w.heap.size) (List.Subset.refl _) (Nat.zero_le _)
 go_upto_region 6 with (fail)
 go_loopw [11] (fun i wr => ∃ a : Nat, a ≤ n ∧ Hid (a ≤ 100) ∧ i = .int .i64 a ∧ (∃ A n c E m e F k f y, Hid (yWalkTo sNew l = a + yWalkTo y (l.drop a)) ∧ Hid (sGood y) ∧ Box wr g10 33 #[.slice A n c, .slice E m e, .slice F k f, .int .i64 y.next] ∧ StoV tS wr w.heap.size (.agg #[.slice A n c, .slice E m e, .slice F k f, .int .i64 y.next]) y) ∧ Box wr gd 67 #[.int .i64 x.kind, .int .i64 x.n, .int .i64 x.m, .int .i64 x.deed.kind, .int .i64 x.deed.key, .int .i64 x.deed.n, .slice A0 n0 c0] ∧ Ext w wr) (fun i _ => n - (intOf i).toNat)
 case atStart => exact ⟨0, by omega, Lib.hid (by omega), rfl, ⟨_, _, _, _, _, _, _, _, _, _, Lib.hid (by rw [List.drop_zero]; omega), Lib.hid new_good, b10, s5⟩, b5, hx⟩
 case round =>
  clear hx b5 b10 s5
  obtain ⟨a, ha, HA, rfl, ⟨A3, n3, c3, E3, m3, e3, F3, k3, f3, y, HY, HG, b10, s3⟩, b5, hx⟩ := hrel
  obtain ⟨wz, rfl⟩ : ∃ x, x = wr := ⟨_, rfl⟩
  have l10z := b10.lt
  have he : Ext wz wz.drew := (Below.refl _ _).drew
  have hx := ext_trans hx he
  have s3 := s3.ext he
  have b10 := b10.ext he
  have b5 := b5.ext he
  clear he
  have i0 : (0 : Int) ≤ (a : Int) := by omega
  by_cases hlt : a < n
  case neg =>
   have HFIN : Hid (l.length ≤ 100 → yWalkTo sNew l = a) := Lib.hid (fun _ => by
    have e : a = l.length := by have := HN.out; omega
    rw [HY.out, e, List.drop_length]
    show l.length + 0 = _
    omega)
   have qa : decide ((a : Int) < (n : Int)) = false := by simp; omega
   have qb : decide (a < n) = false := by simp; omega
   clear HY HG s3 b10 hlt
   go_upto_region 6 with (fail)
   refine wp_region_ext 16 [0, 1, 2, 3, 4, 5, 6, 7, 8, 9, 10, 11, 12, 13, 14, 15] false rfl (by kernel_rfl) (by kernel_rfl) ?_
   generalize wz.drew = D at hx b5 ⊢
   apply mixF 0 (by kernel_rfl) (by rfl) (by rfl)
   ·(intro w' hx; go_simp <;> with_reducible rfl)
   simp only [pA, pB, pC, pD]
   apply mixF 1 (by kernel_rfl) (by rfl) (by rfl)
   ·(intro w' hx; go_simp <;> with_reducible rfl)
   simp only [pA, pB, pC, pD]
   apply mixF 2 (by kernel_rfl) (by rfl) (by rfl)
   ·(intro w' hx; go_simp <;> with_reducible rfl)
   simp only [pA, pB, pC, pD]
   apply mixF 3 (by kernel_rfl) (by rfl) (by rfl)
   ·(intro w' hx; go_simp <;> with_reducible rfl)
   simp only [pA, pB, pC, pD]
   apply mixF 4 (by kernel_rfl) (by rfl) (by rfl)
   ·(intro w' hx; go_simp <;> with_reducible rfl)
   simp only [pA, pB, pC, pD]
   refine mixFskip 5 (by kernel_rfl) (by rfl) (by rfl) ?_
   simp only [pA, pB, pC, pD]
   refine mixFskip 6 (by kernel_rfl) (by rfl) (by rfl) ?_
   simp only [pA, pB, pC, pD]
   apply mixF 7 (by kernel_rfl) (by rfl) (by rfl)
   ·(intro w' hx; go_simp <;> with_reducible rfl)
   simp only [pA, pB, pC, pD]
   apply mixF 8 (by kernel_rfl) (by rfl) (by rfl)
   ·(intro w' hx; go_simp <;> with_reducible rfl)
   simp only [pA, pB, pC, pD]
   refine mixFskip 9 (by kernel_rfl) (by rfl) (by rfl) ?_
   simp only [pA, pB, pC, pD]
   refine mixFskip 10 (by kernel_rfl) (by rfl) (by rfl) ?_
   simp only [pA, pB, pC, pD]
   refine mixFskip 11 (by kernel_rfl) (by rfl) (by rfl) ?_
   simp only [pA, pB, pC, pD]
   refine mixFskip 12 (by kernel_rfl) (by rfl) (by rfl) ?_
   simp only [pA, pB, pC, pD]
   refine mixFskip 13 (by kernel_rfl) (by rfl) (by rfl) ?_
   simp only [pA, pB, pC, pD]
   refine mixFskip 14 (by kernel_rfl) (by rfl) (by rfl) ?_
   simp only [pA, pB, pC, pD]
   apply mixF 15 (by kernel_rfl) (by rfl) (by rfl)
   ·(intro w' hx; go_simp <;> with_reducible rfl)
   simp only [pA, pB, pC, pD]
   refine mixEnd (by kernel_rfl) ?_
   go_wp2_with fail
   refine (mayWalk_v (hlw.ext hx)).mono ?_
   rintro e15 w15 ⟨rfl, he⟩
   have hx := ext_trans hx he
   have b5 := b5.ext he
   clear he
   generalize yWalkTo sNew l = kk at HFIN ⊢
   by_cases hlen : n ≤ 100
   ·have q1 : decide ((n : Int) ≤ 100) = true := by simp; omega
    have q2 : decide (n ≤ 100) = true := by simp; omega
    have hk : kk = a := HFIN.out (by rw [← HN.out]; exact hlen)
    have qk : ((kk : Int) != (a : Int)) = false := by rw [hk]; simp
    have qk2 : (kk != a) = false := by rw [hk]; simp
    clear hk hlen
    go_upto_region 12 with (fail)
    clear q1 q2 qk qk2 HFIN
    have hm := hmw.ext hx
    have hs := hsw.ext hx
    go_wp2_with fail
    refine (rightRecords_v hm).mono ?_
    rintro e16 w16 ⟨rfl, he⟩
    have hx := ext_trans hx he
    have hm := hm.ext he
    have hs := hs.ext he
    have b5 := b5.ext he
    clear he
    cases hr : mRight recs with
    | false =>
     clear hr
     go_wp2_with fail
     go_ret
     exact ⟨rfl, hx⟩
    | true =>
     have HR := Lib.hid (right_parts hr)
     clear hr
     go_upto_region 14 with (fail)
     have hd0 : Ext w16 w16.drew := (Below.refl _ _).drew
     have hx := ext_trans hx hd0
     have hm := hm.ext hd0
     have hs := hs.ext hd0
     have b5 := b5.ext hd0
     clear hd0
     refine wp_region_ext 8 [0, 1, 3, 4, 6, 7] false rfl (by kernel_rfl) (by kernel_rfl) ?_
     generalize w16.drew = D at hx hm hs b5 ⊢
     apply mixF 0 (by kernel_rfl) (by rfl) (by rfl)
     ·(intro w' hx; obtain ⟨y0, y1, y2, y3, y4, y5, y6⟩ := (b5.ext hx).c7; go_simp <;> with_reducible rfl)
     simp only [pA, pB, pC, pD]
     apply mixF 1 (by kernel_rfl) (by rfl) (by rfl)
     ·(intro w' hx; obtain ⟨y0, y1, y2, y3, y4, y5, y6⟩ := (b5.ext hx).c7; go_simp <;> with_reducible rfl)
     simp only [pA, pB, pC, pD]
     apply mixF 3 (by kernel_rfl) (by rfl) (by rfl)
     ·(intro w' hx; obtain ⟨y0, y1, y2, y3, y4, y5, y6⟩ := (b5.ext hx).c7; go_simp <;> with_reducible rfl)
     simp only [pA, pB, pC, pD]
     apply mixF 4 (by kernel_rfl) (by rfl) (by rfl)
     ·(intro w' hx; obtain ⟨y0, y1, y2, y3, y4, y5, y6⟩ := (b5.ext hx).c7; go_simp <;> with_reducible rfl)
     simp only [pA, pB, pC, pD]
     refine mixS 2 (by kernel_rfl) (by kernel_rfl) (by rfl) (by rfl) (fun K hK => ?_)
     go_wp2_with (go_at_call 48; refine (mayLists_v hm HR.out.1 HR.out.2 hs).mono ?_; rintro e w17 ⟨v17, rfl, R17, he⟩)
     refine hK.out _ _ (he) ?_
     clear hK K
     try simp only [pA, pB, pC, pD]
     have hx := ext_trans hx he
     have hm := hm.ext he
     have hs := hs.ext he
     clear he b5
     refine mixS 5 (by kernel_rfl) (by kernel_rfl) (by rfl) (by rfl) (fun K hK => ?_)
     go_wp2_with (go_at_call 49; refine (refLists_v hm HR.out.1 HR.out.2 hs).mono ?_; rintro e w18 ⟨v18, rfl, R18, he⟩)
     refine hK.out _ _ (he) ?_
     clear hK K
     try simp only [pA, pB, pC, pD]
     have hx := ext_trans hx he
     have R17 := R17.ext he
     clear he hm hs
     apply mixF 6 (by kernel_rfl) (by rfl) (by rfl)
     ·(intro w' hx; go_simp <;> with_reducible rfl)
     simp only [pA, pB, pC, pD]
     apply mixF 7 (by kernel_rfl) (by rfl) (by rfl)
     ·(intro w' hx; go_simp <;> with_reducible rfl)
     simp only [pA, pB, pC, pD]
     refine mixEnd (by kernel_rfl) ?_
     generalize yLists recs x = ls at R17 R18
     obtain ⟨A17, n17, c17, rfl, _, hm17, HN17⟩ := R17.form
     obtain ⟨A18, n18, c18, rfl, _, _, HN18⟩ := R18.form
     obtain rfl : n18 = n17 := HN18.out.trans HN17.out.symm
     unfold maxLen at hm17
     go_upto_region 18 with (fail)
     go_loopw [88] (fun i wq => ∃ b : Nat, b ≤ n18 ∧ i = .int .i64 b ∧ Ext w18 wq) (fun i _ => n18 - (intOf i).toNat)
     case atStart => exact ⟨0, by omega, rfl, Below.refl _ _⟩
     case round =>
      obtain ⟨b, hb, rfl, hxq⟩ := hrel
      by_cases hlb : b < n18
      ·have i0 : (0 : Int) ≤ (b : Int) := by omega
       have i1 : (b : Int) < (n18 : Int) := by omega
       obtain ⟨g1, o1, u1, rfl, hg1, c1, r1⟩ := (R17.ext hxq).at_ hlb
       obtain ⟨g2, o2, u2, rfl, hg2, c2, r2⟩ := (R18.ext hxq).at_ hlb
       generalize ls.getD b [] = rs at r1 r2
       obtain ⟨A1, n1, c1', rfl, _, _, _⟩ := r1.form
       obtain ⟨A2, n2, c2', rfl, _, _, _⟩ := r2.form
       go_upto_region 20 with (fail)
       have hd0 : Ext wr wr.drew := (Below.refl _ _).drew
       have c1 := (hd0.cell (p := ⟨g1, o1 + b, none⟩) hg1).trans c1
       have c2 := (hd0.cell (p := ⟨g2, o2 + b, none⟩) hg2).trans c2
       have hg1 := Nat.lt_of_lt_of_le hg1 hd0.size
       have hg2 := Nat.lt_of_lt_of_le hg2 hd0.size
       have hxq := ext_trans hxq hd0
       have r1 := r1.ext hd0
       have r2 := r2.ext hd0
       clear hd0
       refine wp_region_ext 10 [0, 1, 2, 3, 4, 5, 6, 7, 9] false rfl (by kernel_rfl) (by kernel_rfl) ?_
       generalize wr.drew = D at hxq c1 c2 hg1 hg2 r1 r2 ⊢
       apply mixF 0 (by kernel_rfl) (by rfl) (by rfl)
       ·(intro w' hx; have x1 := (hx.cell (p := ⟨g1, o1 + b, none⟩) hg1).trans c1; have x2 := (hx.cell (p := ⟨g2, o2 + b, none⟩) hg2).trans c2; go_simp <;> with_reducible rfl)
       simp only [pA, pB, pC, pD]
       apply mixF 1 (by kernel_rfl) (by rfl) (by rfl)
       ·(intro w' hx; have x1 := (hx.cell (p := ⟨g1, o1 + b, none⟩) hg1).trans c1; have x2 := (hx.cell (p := ⟨g2, o2 + b, none⟩) hg2).trans c2; go_simp <;> with_reducible rfl)
       simp only [pA, pB, pC, pD]
       apply mixF 2 (by kernel_rfl) (by rfl) (by rfl)
       ·(intro w' hx; have x1 := (hx.cell (p := ⟨g1, o1 + b, none⟩) hg1).trans c1; have x2 := (hx.cell (p := ⟨g2, o2 + b, none⟩) hg2).trans c2; go_simp <;> with_reducible rfl)
       simp only [pA, pB, pC, pD]
       apply mixF 3 (by kernel_rfl) (by rfl) (by rfl)
       ·(intro w' hx; have x1 := (hx.cell (p := ⟨g1, o1 + b, none⟩) hg1).trans c1; have x2 := (hx.cell (p := ⟨g2, o2 + b, none⟩) hg2).trans c2; go_simp <;> with_reducible rfl)
       simp only [pA, pB, pC, pD]
       apply mixF 4 (by kernel_rfl) (by rfl) (by rfl)
       ·(intro w' hx; have x1 := (hx.cell (p := ⟨g1, o1 + b, none⟩) hg1).trans c1; have x2 := (hx.cell (p := ⟨g2, o2 + b, none⟩) hg2).trans c2; go_simp <;> with_reducible rfl)
       simp only [pA, pB, pC, pD]
       apply mixF 5 (by kernel_rfl) (by rfl) (by rfl)
       ·(intro w' hx; have x1 := (hx.cell (p := ⟨g1, o1 + b, none⟩) hg1).trans c1; have x2 := (hx.cell (p := ⟨g2, o2 + b, none⟩) hg2).trans c2; go_simp <;> with_reducible rfl)
       simp only [pA, pB, pC, pD]
       apply mixF 6 (by kernel_rfl) (by rfl) (by rfl)
       ·(intro w' hx; have x1 := (hx.cell (p := ⟨g1, o1 + b, none⟩) hg1).trans c1; have x2 := (hx.cell (p := ⟨g2, o2 + b, none⟩) hg2).trans c2; go_simp <;> with_reducible rfl)
       simp only [pA, pB, pC, pD]
       apply mixF 7 (by kernel_rfl) (by rfl) (by rfl)
       ·(intro w' hx; have x1 := (hx.cell (p := ⟨g1, o1 + b, none⟩) hg1).trans c1; have x2 := (hx.cell (p := ⟨g2, o2 + b, none⟩) hg2).trans c2; go_simp <;> with_reducible rfl)
       simp only [pA, pB, pC, pD]
       refine mixS 8 (by kernel_rfl) (by kernel_rfl) (by rfl) (by rfl) (fun K hK => ?_)
       go_wp2_with (go_at_call 35; refine (rSameRecs_v r1 r2).mono ?_; rintro e w20 ⟨rfl, he⟩)
       refine hK.out _ _ (he) ?_
       clear hK K
       try simp only [pA, pB, pC, pD]
       rw [mSame_refl]
       have hxq := ext_trans hxq he
       clear he c1 c2 r1 r2
       apply mixF 9 (by kernel_rfl) (by rfl) (by rfl)
       ·(intro w' hx; go_simp <;> with_reducible rfl)
       simp only [pA, pB, pC, pD]
       refine mixEnd (by kernel_rfl) ?_
       go_wp2_with fail
       refine ⟨⟨b + 1, by omega, rfl, hxq⟩, ?_⟩
       simp only [intOf]
       omega
      ·obtain rfl : b = n18 := by omega
       go_wp2_with fail
       go_ret
       exact ⟨rfl, ext_trans hx hxq⟩
   ·have q1 : decide ((n : Int) ≤ 100) = false := by simp; omega
    have q2 : decide (n ≤ 100) = false := by simp; omega
    clear hlen
    go_upto_region 12 with (fail)
    clear q1 q2 HFIN
    have hm := hmw.ext hx
    have hs := hsw.ext hx
    go_wp2_with fail
    refine (rightRecords_v hm).mono ?_
    rintro e16 w16 ⟨rfl, he⟩
    have hx := ext_trans hx he
    have hm := hm.ext he
    have hs := hs.ext he
    have b5 := b5.ext he
    clear he
    cases hr : mRight recs with
    | false =>
     clear hr
     go_wp2_with fail
     go_ret
     exact ⟨rfl, hx⟩
    | true =>
     have HR := Lib.hid (right_parts hr)
     clear hr
     go_upto_region 14 with (fail)
     have hd0 : Ext w16 w16.drew := (Below.refl _ _).drew
     have hx := ext_trans hx hd0
     have hm := hm.ext hd0
     have hs := hs.ext hd0
     have b5 := b5.ext hd0
     clear hd0
     refine wp_region_ext 8 [0, 1, 3, 4, 6, 7] false rfl (by kernel_rfl) (by kernel_rfl) ?_
     generalize w16.drew = D at hx hm hs b5 ⊢
     apply mixF 0 (by kernel_rfl) (by rfl) (by rfl)
     ·(intro w' hx; obtain ⟨y0, y1, y2, y3, y4, y5, y6⟩ := (b5.ext hx).c7; go_simp <;> with_reducible rfl)
     simp only [pA, pB, pC, pD]
     apply mixF 1 (by kernel_rfl) (by rfl) (by rfl)
     ·(intro w' hx; obtain ⟨y0, y1, y2, y3, y4, y5, y6⟩ := (b5.ext hx).c7; go_simp <;> with_reducible rfl)
     simp only [pA, pB, pC, pD]
     apply mixF 3 (by kernel_rfl) (by rfl) (by rfl)
     ·(intro w' hx; obtain ⟨y0, y1, y2, y3, y4, y5, y6⟩ := (b5.ext hx).c7; go_simp <;> with_reducible rfl)
     simp only [pA, pB, pC, pD]
     apply mixF 4 (by kernel_rfl) (by rfl) (by rfl)
     ·(intro w' hx; obtain ⟨y0, y1, y2, y3, y4, y5, y6⟩ := (b5.ext hx).c7; go_simp <;> with_reducible rfl)
     simp only [pA, pB, pC, pD]
     refine mixS 2 (by kernel_rfl) (by kernel_rfl) (by rfl) (by rfl) (fun K hK => ?_)
     go_wp2_with (go_at_call 48; refine (mayLists_v hm HR.out.1 HR.out.2 hs).mono ?_; rintro e w17 ⟨v17, rfl, R17, he⟩)
     refine hK.out _ _ (he) ?_
     clear hK K
     try simp only [pA, pB, pC, pD]
     have hx := ext_trans hx he
     have hm := hm.ext he
     have hs := hs.ext he
     clear he b5
     refine mixS 5 (by kernel_rfl) (by kernel_rfl) (by rfl) (by rfl) (fun K hK => ?_)
     go_wp2_with (go_at_call 49; refine (refLists_v hm HR.out.1 HR.out.2 hs).mono ?_; rintro e w18 ⟨v18, rfl, R18, he⟩)
     refine hK.out _ _ (he) ?_
     clear hK K
     try simp only [pA, pB, pC, pD]
     have hx := ext_trans hx he
     have R17 := R17.ext he
     clear he hm hs
     apply mixF 6 (by kernel_rfl) (by rfl) (by rfl)
     ·(intro w' hx; go_simp <;> with_reducible rfl)
     simp only [pA, pB, pC, pD]
     apply mixF 7 (by kernel_rfl) (by rfl) (by rfl)
     ·(intro w' hx; go_simp <;> with_reducible rfl)
     simp only [pA, pB, pC, pD]
     refine mixEnd (by kernel_rfl) ?_
     generalize yLists recs x = ls at R17 R18
     obtain ⟨A17, n17, c17, rfl, _, hm17, HN17⟩ := R17.form
     obtain ⟨A18, n18, c18, rfl, _, _, HN18⟩ := R18.form
     obtain rfl : n18 = n17 := HN18.out.trans HN17.out.symm
     unfold maxLen at hm17
     go_upto_region 18 with (fail)
     go_loopw [88] (fun i wq => ∃ b : Nat, b ≤ n18 ∧ i = .int .i64 b ∧ Ext w18 wq) (fun i _ => n18 - (intOf i).toNat)
     case atStart => exact ⟨0, by omega, rfl, Below.refl _ _⟩
     case round =>
      obtain ⟨b, hb, rfl, hxq⟩ := hrel
      by_cases hlb : b < n18
      ·have i0 : (0 : Int) ≤ (b : Int) := by omega
       have i1 : (b : Int) < (n18 : Int) := by omega
       obtain ⟨g1, o1, u1, rfl, hg1, c1, r1⟩ := (R17.ext hxq).at_ hlb
       obtain ⟨g2, o2, u2, rfl, hg2, c2, r2⟩ := (R18.ext hxq).at_ hlb
       generalize ls.getD b [] = rs at r1 r2
       obtain ⟨A1, n1, c1', rfl, _, _, _⟩ := r1.form
       obtain ⟨A2, n2, c2', rfl, _, _, _⟩ := r2.form
       go_upto_region 20 with (fail)
       have hd0 : Ext wr wr.drew := (Below.refl _ _).drew
       have c1 := (hd0.cell (p := ⟨g1, o1 + b, none⟩) hg1).trans c1
       have c2 := (hd0.cell (p := ⟨g2, o2 + b, none⟩) hg2).trans c2
       have hg1 := Nat.lt_of_lt_of_le hg1 hd0.size
       have hg2 := Nat.lt_of_lt_of_le hg2 hd0.size
       have hxq := ext_trans hxq hd0
       have r1 := r1.ext hd0
       have r2 := r2.ext hd0
       clear hd0
       refine wp_region_ext 10 [0, 1, 2, 3, 4, 5, 6, 7, 9] false rfl (by kernel_rfl) (by kernel_rfl) ?_
       generalize wr.drew = D at hxq c1 c2 hg1 hg2 r1 r2 ⊢
       apply mixF 0 (by kernel_rfl) (by rfl) (by rfl)
       ·(intro w' hx; have x1 := (hx.cell (p := ⟨g1, o1 + b, none⟩) hg1).trans c1; have x2 := (hx.cell (p := ⟨g2, o2 + b, none⟩) hg2).trans c2; go_simp <;> with_reducible rfl)
       simp only [pA, pB, pC, pD]
       apply mixF 1 (by kernel_rfl) (by rfl) (by rfl)
       ·(intro w' hx; have x1 := (hx.cell (p := ⟨g1, o1 + b, none⟩) hg1).trans c1; have x2 := (hx.cell (p := ⟨g2, o2 + b, none⟩) hg2).trans c2; go_simp <;> with_reducible rfl)
       simp only [pA, pB, pC, pD]
       apply mixF 2 (by kernel_rfl) (by rfl) (by rfl)
       ·(intro w' hx; have x1 := (hx.cell (p := ⟨g1, o1 + b, none⟩) hg1).trans c1; have x2 := (hx.cell (p := ⟨g2, o2 + b, none⟩) hg2).trans c2; go_simp <;> with_reducible rfl)
       simp only [pA, pB, pC, pD]
       apply mixF 3 (by kernel_rfl) (by rfl) (by rfl)
       ·(intro w' hx; have x1 := (hx.cell (p := ⟨g1, o1 + b, none⟩) hg1).trans c1; have x2 := (hx.cell (p := ⟨g2, o2 + b, none⟩) hg2).trans c2; go_simp <;> with_reducible rfl)
       simp only [pA, pB, pC, pD]
       apply mixF 4 (by kernel_rfl) (by rfl) (by rfl)
       ·(intro w' hx; have x1 := (hx.cell (p := ⟨g1, o1 + b, none⟩) hg1).trans c1; have x2 := (hx.cell (p := ⟨g2, o2 + b, none⟩) hg2).trans c2; go_simp <;> with_reducible rfl)
       simp only [pA, pB, pC, pD]
       apply mixF 5 (by kernel_rfl) (by rfl) (by rfl)
       ·(intro w' hx; have x1 := (hx.cell (p := ⟨g1, o1 + b, none⟩) hg1).trans c1; have x2 := (hx.cell (p := ⟨g2, o2 + b, none⟩) hg2).trans c2; go_simp <;> with_reducible rfl)
       simp only [pA, pB, pC, pD]
       apply mixF 6 (by kernel_rfl) (by rfl) (by rfl)
       ·(intro w' hx; have x1 := (hx.cell (p := ⟨g1, o1 + b, none⟩) hg1).trans c1; have x2 := (hx.cell (p := ⟨g2, o2 + b, none⟩) hg2).trans c2; go_simp <;> with_reducible rfl)
       simp only [pA, pB, pC, pD]
       apply mixF 7 (by kernel_rfl) (by rfl) (by rfl)
       ·(intro w' hx; have x1 := (hx.cell (p := ⟨g1, o1 + b, none⟩) hg1).trans c1; have x2 := (hx.cell (p := ⟨g2, o2 + b, none⟩) hg2).trans c2; go_simp <;> with_reducible rfl)
       simp only [pA, pB, pC, pD]
       refine mixS 8 (by kernel_rfl) (by kernel_rfl) (by rfl) (by rfl) (fun K hK => ?_)
       go_wp2_with (go_at_call 35; refine (rSameRecs_v r1 r2).mono ?_; rintro e w20 ⟨rfl, he⟩)
       refine hK.out _ _ (he) ?_
       clear hK K
       try simp only [pA, pB, pC, pD]
       rw [mSame_refl]
       have hxq := ext_trans hxq he
       clear he c1 c2 r1 r2
       apply mixF 9 (by kernel_rfl) (by rfl) (by rfl)
       ·(intro w' hx; go_simp <;> with_reducible rfl)
       simp only [pA, pB, pC, pD]
       refine mixEnd (by kernel_rfl) ?_
       go_wp2_with fail
       refine ⟨⟨b + 1, by omega, rfl, hxq⟩, ?_⟩
       simp only [intOf]
       omega
      ·obtain rfl : b = n18 := by omega
       go_wp2_with fail
       go_ret
       exact ⟨rfl, ext_trans hx hxq⟩
  have i1 : (a : Int) < (n : Int) := by omega
  have i2 : decide (a < n) = true := by simp; omega
  by_cases h100 : a < 100
  case neg =>
   have HFIN : Hid (l.length ≤ 100 → yWalkTo sNew l = a) := Lib.hid (fun h => by have := HN.out; omega)
   have qa : decide ((a : Int) < 100) = false := by simp; omega
   have qb : decide (a < 100) = false := by simp; omega
   clear HY HG s3 b10 hlt h100
   go_upto_region 6 with (fail)
   refine wp_region_ext 16 [0, 1, 2, 3, 4, 5, 6, 7, 8, 9, 10, 11, 12, 13, 14, 15] false rfl (by kernel_rfl) (by kernel_rfl) ?_
   generalize wz.drew = D at hx b5 ⊢
   apply mixF 0 (by kernel_rfl) (by rfl) (by rfl)
   ·(intro w' hx; go_simp <;> with_reducible rfl)
   simp only [pA, pB, pC, pD]
   apply mixF 1 (by kernel_rfl) (by rfl) (by rfl)
   ·(intro w' hx; go_simp <;> with_reducible rfl)
   simp only [pA, pB, pC, pD]
   apply mixF 2 (by kernel_rfl) (by rfl) (by rfl)
   ·(intro w' hx; go_simp <;> with_reducible rfl)
   simp only [pA, pB, pC, pD]
   apply mixF 3 (by kernel_rfl) (by rfl) (by rfl)
   ·(intro w' hx; go_simp <;> with_reducible rfl)
   simp only [pA, pB, pC, pD]
   apply mixF 4 (by kernel_rfl) (by rfl) (by rfl)
   ·(intro w' hx; go_simp <;> with_reducible rfl)
   simp only [pA, pB, pC, pD]
   apply mixF 5 (by kernel_rfl) (by rfl) (by rfl)
   ·(intro w' hx; go_simp <;> with_reducible rfl)
   simp only [pA, pB, pC, pD]
   apply mixF 6 (by kernel_rfl) (by rfl) (by rfl)
   ·(intro w' hx; go_simp <;> with_reducible rfl)
   simp only [pA, pB, pC, pD]
   apply mixF 7 (by kernel_rfl) (by rfl) (by rfl)
   ·(intro w' hx; go_simp <;> with_reducible rfl)
   simp only [pA, pB, pC, pD]
   apply mixF 8 (by kernel_rfl) (by rfl) (by rfl)
   ·(intro w' hx; go_simp <;> with_reducible rfl)
   simp only [pA, pB, pC, pD]
   refine mixFskip 9 (by kernel_rfl) (by rfl) (by rfl) ?_
   simp only [pA, pB, pC, pD]
   refine mixFskip 10 (by kernel_rfl) (by rfl) (by rfl) ?_
   simp only [pA, pB, pC, pD]
   refine mixFskip 11 (by kernel_rfl) (by rfl) (by rfl) ?_
   simp only [pA, pB, pC, pD]
   refine mixFskip 12 (by kernel_rfl) (by rfl) (by rfl) ?_
   simp only [pA, pB, pC, pD]
   refine mixFskip 13 (by kernel_rfl) (by rfl) (by rfl) ?_
   simp only [pA, pB, pC, pD]
   refine mixFskip 14 (by kernel_rfl) (by rfl) (by rfl) ?_
   simp only [pA, pB, pC, pD]
   apply mixF 15 (by kernel_rfl) (by rfl) (by rfl)
   ·(intro w' hx; go_simp <;> with_reducible rfl)
   simp only [pA, pB, pC, pD]
   refine mixEnd (by kernel_rfl) ?_
   go_wp2_with fail
   refine (mayWalk_v (hlw.ext hx)).mono ?_
   rintro e15 w15 ⟨rfl, he⟩
   have hx := ext_trans hx he
   have b5 := b5.ext he
   clear he
   generalize yWalkTo sNew l = kk at HFIN ⊢
   by_cases hlen : n ≤ 100
   ·have q1 : decide ((n : Int) ≤ 100) = true := by simp; omega
    have q2 : decide (n ≤ 100) = true := by simp; omega
    have hk : kk = a := HFIN.out (by rw [← HN.out]; exact hlen)
    have qk : ((kk : Int) != (a : Int)) = false := by rw [hk]; simp
    have qk2 : (kk != a) = false := by rw [hk]; simp
    clear hk hlen
    go_upto_region 12 with (fail)
    clear q1 q2 qk qk2 HFIN
    have hm := hmw.ext hx
    have hs := hsw.ext hx
    go_wp2_with fail
    refine (rightRecords_v hm).mono ?_
    rintro e16 w16 ⟨rfl, he⟩
    have hx := ext_trans hx he
    have hm := hm.ext he
    have hs := hs.ext he
    have b5 := b5.ext he
    clear he
    cases hr : mRight recs with
    | false =>
     clear hr
     go_wp2_with fail
     go_ret
     exact ⟨rfl, hx⟩
    | true =>
     have HR := Lib.hid (right_parts hr)
     clear hr
     go_upto_region 14 with (fail)
     have hd0 : Ext w16 w16.drew := (Below.refl _ _).drew
     have hx := ext_trans hx hd0
     have hm := hm.ext hd0
     have hs := hs.ext hd0
     have b5 := b5.ext hd0
     clear hd0
     refine wp_region_ext 8 [0, 1, 3, 4, 6, 7] false rfl (by kernel_rfl) (by kernel_rfl) ?_
     generalize w16.drew = D at hx hm hs b5 ⊢
     apply mixF 0 (by kernel_rfl) (by rfl) (by rfl)
     ·(intro w' hx; obtain ⟨y0, y1, y2, y3, y4, y5, y6⟩ := (b5.ext hx).c7; go_simp <;> with_reducible rfl)
     simp only [pA, pB, pC, pD]
     apply mixF 1 (by kernel_rfl) (by rfl) (by rfl)
     ·(intro w' hx; obtain ⟨y0, y1, y2, y3, y4, y5, y6⟩ := (b5.ext hx).c7; go_simp <;> with_reducible rfl)
     simp only [pA, pB, pC, pD]
     apply mixF 3 (by kernel_rfl) (by rfl) (by rfl)
     ·(intro w' hx; obtain ⟨y0, y1, y2, y3, y4, y5, y6⟩ := (b5.ext hx).c7; go_simp <;> with_reducible rfl)
     simp only [pA, pB, pC, pD]
     apply mixF 4 (by kernel_rfl) (by rfl) (by rfl)
     ·(intro w' hx; obtain ⟨y0, y1, y2, y3, y4, y5, y6⟩ := (b5.ext hx).c7; go_simp <;> with_reducible rfl)
     simp only [pA, pB, pC, pD]
     refine mixS 2 (by kernel_rfl) (by kernel_rfl) (by rfl) (by rfl) (fun K hK => ?_)
     go_wp2_with (go_at_call 48; refine (mayLists_v hm HR.out.1 HR.out.2 hs).mono ?_; rintro e w17 ⟨v17, rfl, R17, he⟩)
     refine hK.out _ _ (he) ?_
     clear hK K
     try simp only [pA, pB, pC, pD]
     have hx := ext_trans hx he
     have hm := hm.ext he
     have hs := hs.ext he
     clear he b5
     refine mixS 5 (by kernel_rfl) (by kernel_rfl) (by rfl) (by rfl) (fun K hK => ?_)
     go_wp2_with (go_at_call 49; refine (refLists_v hm HR.out.1 HR.out.2 hs).mono ?_; rintro e w18 ⟨v18, rfl, R18, he⟩)
     refine hK.out _ _ (he) ?_
     clear hK K
     try simp only [pA, pB, pC, pD]
     have hx := ext_trans hx he
     have R17 := R17.ext he
     clear he hm hs
     apply mixF 6 (by kernel_rfl) (by rfl) (by rfl)
     ·(intro w' hx; go_simp <;> with_reducible rfl)
     simp only [pA, pB, pC, pD]
     apply mixF 7 (by kernel_rfl) (by rfl) (by rfl)
     ·(intro w' hx; go_simp <;> with_reducible rfl)
     simp only [pA, pB, pC, pD]
     refine mixEnd (by kernel_rfl) ?_
     generalize yLists recs x = ls at R17 R18
     obtain ⟨A17, n17, c17, rfl, _, hm17, HN17⟩ := R17.form
     obtain ⟨A18, n18, c18, rfl, _, _, HN18⟩ := R18.form
     obtain rfl : n18 = n17 := HN18.out.trans HN17.out.symm
     unfold maxLen at hm17
     go_upto_region 18 with (fail)
     go_loopw [88] (fun i wq => ∃ b : Nat, b ≤ n18 ∧ i = .int .i64 b ∧ Ext w18 wq) (fun i _ => n18 - (intOf i).toNat)
     case atStart => exact ⟨0, by omega, rfl, Below.refl _ _⟩
     case round =>
      obtain ⟨b, hb, rfl, hxq⟩ := hrel
      by_cases hlb : b < n18
      ·have i0 : (0 : Int) ≤ (b : Int) := by omega
       have i1 : (b : Int) < (n18 : Int) := by omega
       obtain ⟨g1, o1, u1, rfl, hg1, c1, r1⟩ := (R17.ext hxq).at_ hlb
       obtain ⟨g2, o2, u2, rfl, hg2, c2, r2⟩ := (R18.ext hxq).at_ hlb
       generalize ls.getD b [] = rs at r1 r2
       obtain ⟨A1, n1, c1', rfl, _, _, _⟩ := r1.form
       obtain ⟨A2, n2, c2', rfl, _, _, _⟩ := r2.form
       go_upto_region 20 with (fail)
       have hd0 : Ext wr wr.drew := (Below.refl _ _).drew
       have c1 := (hd0.cell (p := ⟨g1, o1 + b, none⟩) hg1).trans c1
       have c2 := (hd0.cell (p := ⟨g2, o2 + b, none⟩) hg2).trans c2
       have hg1 := Nat.lt_of_lt_of_le hg1 hd0.size
       have hg2 := Nat.lt_of_lt_of_le hg2 hd0.size
       have hxq := ext_trans hxq hd0
       have r1 := r1.ext hd0
       have r2 := r2.ext hd0
       clear hd0
       refine wp_region_ext 10 [0, 1, 2, 3, 4, 5, 6, 7, 9] false rfl (by kernel_rfl) (by kernel_rfl) ?_
       generalize wr.drew = D at hxq c1 c2 hg1 hg2 r1 r2 ⊢
       apply mixF 0 (by kernel_rfl) (by rfl) (by rfl)
       ·(intro w' hx; have x1 := (hx.cell (p := ⟨g1, o1 + b, none⟩) hg1).trans c1; have x2 := (hx.cell (p := ⟨g2, o2 + b, none⟩) hg2).trans c2; go_simp <;> with_reducible rfl)
       simp only [pA, pB, pC, pD]
       apply mixF 1 (by kernel_rfl) (by rfl) (by rfl)
       ·(intro w' hx; have x1 := (hx.cell (p := ⟨g1, o1 + b, none⟩) hg1).trans c1; have x2 := (hx.cell (p := ⟨g2, o2 + b, none⟩) hg2).trans c2; go_simp <;> with_reducible rfl)
       simp only [pA, pB, pC, pD]
       apply mixF 2 (by kernel_rfl) (by rfl) (by rfl)
       ·(intro w' hx; have x1 := (hx.cell (p := ⟨g1, o1 + b, none⟩) hg1).trans c1; have x2 := (hx.cell (p := ⟨g2, o2 + b, none⟩) hg2).trans c2; go_simp <;> with_reducible rfl)
       simp only [pA, pB, pC, pD]
       apply mixF 3 (by kernel_rfl) (by rfl) (by rfl)
       ·(intro w' hx; have x1 := (hx.cell (p := ⟨g1, o1 + b, none⟩) hg1).trans c1; have x2 := (hx.cell (p := ⟨g2, o2 + b, none⟩) hg2).trans c2; go_simp <;> with_reducible rfl)
       simp only [pA, pB, pC, pD]
       apply mixF 4 (by kernel_rfl) (by rfl) (by rfl)
       ·(intro w' hx; have x1 := (hx.cell (p := ⟨g1, o1 + b, none⟩) hg1).trans c1; have x2 := (hx.cell (p := ⟨g2, o2 + b, none⟩) hg2).trans c2; go_simp <;> with_reducible rfl)
       simp only [pA, pB, pC, pD]
       apply mixF 5 (by kernel_rfl) (by rfl) (by rfl)
       ·(intro w' hx; have x1 := (hx.cell (p := ⟨g1, o1 + b, none⟩) hg1).trans c1; have x2 := (hx.cell (p := ⟨g2, o2 + b, none⟩) hg2).trans c2; go_simp <;> with_reducible rfl)
       simp only [pA, pB, pC, pD]
       apply mixF 6 (by kernel_rfl) (by rfl) (by rfl)
       ·(intro w' hx; have x1 := (hx.cell (p := ⟨g1, o1 + b, none⟩) hg1).trans c1; have x2 := (hx.cell (p := ⟨g2, o2 + b, none⟩) hg2).trans c2; go_simp <;> with_reducible rfl)
       simp only [pA, pB, pC, pD]
       apply mixF 7 (by kernel_rfl) (by rfl) (by rfl)
       ·(intro w' hx; have x1 := (hx.cell (p := ⟨g1, o1 + b, none⟩) hg1).trans c1; have x2 := (hx.cell (p := ⟨g2, o2 + b, none⟩) hg2).trans c2; go_simp <;> with_reducible rfl)
       simp only [pA, pB, pC, pD]
       refine mixS 8 (by kernel_rfl) (by kernel_rfl) (by rfl) (by rfl) (fun K hK => ?_)
       go_wp2_with (go_at_call 35; refine (rSameRecs_v r1 r2).mono ?_; rintro e w20 ⟨rfl, he⟩)
       refine hK.out _ _ (he) ?_
       clear hK K
       try simp only [pA, pB, pC, pD]
       rw [mSame_refl]
       have hxq := ext_trans hxq he
       clear he c1 c2 r1 r2
       apply mixF 9 (by kernel_rfl) (by rfl) (by rfl)
       ·(intro w' hx; go_simp <;> with_reducible rfl)
       simp only [pA, pB, pC, pD]
       refine mixEnd (by kernel_rfl) ?_
       go_wp2_with fail
       refine ⟨⟨b + 1, by omega, rfl, hxq⟩, ?_⟩
       simp only [intOf]
       omega
      ·obtain rfl : b = n18 := by omega
       go_wp2_with fail
       go_ret
       exact ⟨rfl, ext_trans hx hxq⟩
   ·have q1 : decide ((n : Int) ≤ 100) = false := by simp; omega
    have q2 : decide (n ≤ 100) = false := by simp; omega
    clear hlen
    go_upto_region 12 with (fail)
    clear q1 q2 HFIN
    have hm := hmw.ext hx
    have hs := hsw.ext hx
    go_wp2_with fail
    refine (rightRecords_v hm).mono ?_
    rintro e16 w16 ⟨rfl, he⟩
    have hx := ext_trans hx he
    have hm := hm.ext he
    have hs := hs.ext he
    have b5 := b5.ext he
    clear he
    cases hr : mRight recs with
    | false =>
     clear hr
     go_wp2_with fail
     go_ret
     exact ⟨rfl, hx⟩
    | true =>
     have HR := Lib.hid (right_parts hr)
     clear hr
     go_upto_region 14 with (fail)
     have hd0 : Ext w16 w16.drew := (Below.refl _ _).drew
     have hx := ext_trans hx hd0
     have hm := hm.ext hd0
     have hs := hs.ext hd0
     have b5 := b5.ext hd0
     clear hd0
     refine wp_region_ext 8 [0, 1, 3, 4, 6, 7] false rfl (by kernel_rfl) (by kernel_rfl) ?_
     generalize w16.drew = D at hx hm hs b5 ⊢
     apply mixF 0 (by kernel_rfl) (by rfl) (by rfl)
     ·(intro w' hx; obtain ⟨y0, y1, y2, y3, y4, y5, y6⟩ := (b5.ext hx).c7; go_simp <;> with_reducible rfl)
     simp only [pA, pB, pC, pD]
     apply mixF 1 (by kernel_rfl) (by rfl) (by rfl)
     ·(intro w' hx; obtain ⟨y0, y1, y2, y3, y4, y5, y6⟩ := (b5.ext hx).c7; go_simp <;> with_reducible rfl)
     simp only [pA, pB, pC, pD]
     apply mixF 3 (by kernel_rfl) (by rfl) (by rfl)
     ·(intro w' hx; obtain ⟨y0, y1, y2, y3, y4, y5, y6⟩ := (b5.ext hx).c7; go_simp <;> with_reducible rfl)
     simp only [pA, pB, pC, pD]
     apply mixF 4 (by kernel_rfl) (by rfl) (by rfl)
     ·(intro w' hx; obtain ⟨y0, y1, y2, y3, y4, y5, y6⟩ := (b5.ext hx).c7; go_simp <;> with_reducible rfl)
     simp only [pA, pB, pC, pD]
     refine mixS 2 (by kernel_rfl) (by kernel_rfl) (by rfl) (by rfl) (fun K hK => ?_)
     go_wp2_with (go_at_call 48; refine (mayLists_v hm HR.out.1 HR.out.2 hs).mono ?_; rintro e w17 ⟨v17, rfl, R17, he⟩)
     refine hK.out _ _ (he) ?_
     clear hK K
     try simp only [pA, pB, pC, pD]
     have hx := ext_trans hx he
     have hm := hm.ext he
     have hs := hs.ext he
     clear he b5
     refine mixS 5 (by kernel_rfl) (by kernel_rfl) (by rfl) (by rfl) (fun K hK => ?_)
     go_wp2_with (go_at_call 49; refine (refLists_v hm HR.out.1 HR.out.2 hs).mono ?_; rintro e w18 ⟨v18, rfl, R18, he⟩)
     refine hK.out _ _ (he) ?_
     clear hK K
     try simp only [pA, pB, pC, pD]
     have hx := ext_trans hx he
     have R17 := R17.ext he
     clear he hm hs
     apply mixF 6 (by kernel_rfl) (by rfl) (by rfl)
     ·(intro w' hx; go_simp <;> with_reducible rfl)
     simp only [pA, pB, pC, pD]
     apply mixF 7 (by kernel_rfl) (by rfl) (by rfl)
     ·(intro w' hx; go_simp <;> with_reducible rfl)
     simp only [pA, pB, pC, pD]
     refine mixEnd (by kernel_rfl) ?_
     generalize yLists recs x = ls at R17 R18
     obtain ⟨A17, n17, c17, rfl, _, hm17, HN17⟩ := R17.form
     obtain ⟨A18, n18, c18, rfl, _, _, HN18⟩ := R18.form
     obtain rfl : n18 = n17 := HN18.out.trans HN17.out.symm
     unfold maxLen at hm17
     go_upto_region 18 with (fail)
     go_loopw [88] (fun i wq => ∃ b : Nat, b ≤ n18 ∧ i = .int .i64 b ∧ Ext w18 wq) (fun i _ => n18 - (intOf i).toNat)
     case atStart => exact ⟨0, by omega, rfl, Below.refl _ _⟩
     case round =>
      obtain ⟨b, hb, rfl, hxq⟩ := hrel
      by_cases hlb : b < n18
      ·have i0 : (0 : Int) ≤ (b : Int) := by omega
       have i1 : (b : Int) < (n18 : Int) := by omega
       obtain ⟨g1, o1, u1, rfl, hg1, c1, r1⟩ := (R17.ext hxq).at_ hlb
       obtain ⟨g2, o2, u2, rfl, hg2, c2, r2⟩ := (R18.ext hxq).at_ hlb
       generalize ls.getD b [] = rs at r1 r2
       obtain ⟨A1, n1, c1', rfl, _, _, _⟩ := r1.form
       obtain ⟨A2, n2, c2', rfl, _, _, _⟩ := r2.form
       go_upto_region 20 with (fail)
       have hd0 : Ext wr wr.drew := (Below.refl _ _).drew
       have c1 := (hd0.cell (p := ⟨g1, o1 + b, none⟩) hg1).trans c1
       have c2 := (hd0.cell (p := ⟨g2, o2 + b, none⟩) hg2).trans c2
       have hg1 := Nat.lt_of_lt_of_le hg1 hd0.size
       have hg2 := Nat.lt_of_lt_of_le hg2 hd0.size
       have hxq := ext_trans hxq hd0
       have r1 := r1.ext hd0
       have r2 := r2.ext hd0
       clear hd0
       refine wp_region_ext 10 [0, 1, 2, 3, 4, 5, 6, 7, 9] false rfl (by kernel_rfl) (by kernel_rfl) ?_
       generalize wr.drew = D at hxq c1 c2 hg1 hg2 r1 r2 ⊢
       apply mixF 0 (by kernel_rfl) (by rfl) (by rfl)
       ·(intro w' hx; have x1 := (hx.cell (p := ⟨g1, o1 + b, none⟩) hg1).trans c1; have x2 := (hx.cell (p := ⟨g2, o2 + b, none⟩) hg2).trans c2; go_simp <;> with_reducible rfl)
       simp only [pA, pB, pC, pD]
       apply mixF 1 (by kernel_rfl) (by rfl) (by rfl)
       ·(intro w' hx; have x1 := (hx.cell (p := ⟨g1, o1 + b, none⟩) hg1).trans c1; have x2 := (hx.cell (p := ⟨g2, o2 + b, none⟩) hg2).trans c2; go_simp <;> with_reducible rfl)
       simp only [pA, pB, pC, pD]
       apply mixF 2 (by kernel_rfl) (by rfl) (by rfl)
       ·(intro w' hx; have x1 := (hx.cell (p := ⟨g1, o1 + b, none⟩) hg1).trans c1; have x2 := (hx.cell (p := ⟨g2, o2 + b, none⟩) hg2).trans c2; go_simp <;> with_reducible rfl)
       simp only [pA, pB, pC, pD]
       apply mixF 3 (by kernel_rfl) (by rfl) (by rfl)
       ·(intro w' hx; have x1 := (hx.cell (p := ⟨g1, o1 + b, none⟩) hg1).trans c1; have x2 := (hx.cell (p := ⟨g2, o2 + b, none⟩) hg2).trans c2; go_simp <;> with_reducible rfl)
       simp only [pA, pB, pC, pD]
       apply mixF 4 (by kernel_rfl) (by rfl) (by rfl)
       ·(intro w' hx; have x1 := (hx.cell (p := ⟨g1, o1 + b, none⟩) hg1).trans c1; have x2 := (hx.cell (p := ⟨g2, o2 + b, none⟩) hg2).trans c2; go_simp <;> with_reducible rfl)
       simp only [pA, pB, pC, pD]
       apply mixF 5 (by kernel_rfl) (by rfl) (by rfl)
       ·(intro w' hx; have x1 := (hx.cell (p := ⟨g1, o1 + b, none⟩) hg1).trans c1; have x2 := (hx.cell (p := ⟨g2, o2 + b, none⟩) hg2).trans c2; go_simp <;> with_reducible rfl)
       simp only [pA, pB, pC, pD]
       apply mixF 6 (by kernel_rfl) (by rfl) (by rfl)
       ·(intro w' hx; have x1 := (hx.cell (p := ⟨g1, o1 + b, none⟩) hg1).trans c1; have x2 := (hx.cell (p := ⟨g2, o2 + b, none⟩) hg2).trans c2; go_simp <;> with_reducible rfl)
       simp only [pA, pB, pC, pD]
       apply mixF 7 (by kernel_rfl) (by rfl) (by rfl)
       ·(intro w' hx; have x1 := (hx.cell (p := ⟨g1, o1 + b, none⟩) hg1).trans c1; have x2 := (hx.cell (p := ⟨g2, o2 + b, none⟩) hg2).trans c2; go_simp <;> with_reducible rfl)
       simp only [pA, pB, pC, pD]
       refine mixS 8 (by kernel_rfl) (by kernel_rfl) (by rfl) (by rfl) (fun K hK => ?_)
       go_wp2_with (go_at_call 35; refine (rSameRecs_v r1 r2).mono ?_; rintro e w20 ⟨rfl, he⟩)
       refine hK.out _ _ (he) ?_
       clear hK K
       try simp only [pA, pB, pC, pD]
       rw [mSame_refl]
       have hxq := ext_trans hxq he
       clear he c1 c2 r1 r2
       apply mixF 9 (by kernel_rfl) (by rfl) (by rfl)
       ·(intro w' hx; go_simp <;> with_reducible rfl)
       simp only [pA, pB, pC, pD]
       refine mixEnd (by kernel_rfl) ?_
       go_wp2_with fail
       refine ⟨⟨b + 1, by omega, rfl, hxq⟩, ?_⟩
       simp only [intOf]
       omega
      ·obtain rfl : b = n18 := by omega
       go_wp2_with fail
       go_ret
       exact ⟨rfl, ext_trans hx hxq⟩
  have qa : decide ((a : Int) < 100) = true := by simp; omega
  have qb : decide (a < 100) = true := by simp; omega
  have HA1 := Lib.hid (show a + 1 ≤ 100 by omega)
  obtain ⟨g1, o1, u1, rfl, hg1, hu1, f1⟩ := hlw.stp_x hlt
  have HST := Lib.hid (walk_step (s := y) (l := l) (a := a) (by rw [← HN.out]; exact hlt))
  generalize l.getD a eStp.d = z at f1 hu1 HST
  obtain ⟨AX, nx, cx, rfl, _, _⟩ := hu1.form
  have hu1 := hu1.ext hx
  clear hlt h100 hg1
  go_upto_region 6 with (fail)
  refine wp_region_ext 16 [0, 1, 2, 3, 4, 5, 6, 7, 8, 9, 10, 11, 12, 13, 15] false rfl (by kernel_rfl) (by kernel_rfl) ?_
  generalize wz.drew = D at hx s3 b10 b5 hu1 ⊢
  have F1 := fun w' (h : Ext D w') => f1 w' (ext_trans hx h)
  apply mixF 0 (by kernel_rfl) (by rfl) (by rfl)
  ·(intro w' hx; obtain ⟨x0, x1, x2, x3⟩ := (b10.ext hx).c4; obtain ⟨y0, y1, y2, y3, y4, y5, y6⟩ := F1 w' hx; go_simp <;> with_reducible rfl)
  simp only [pA, pB, pC, pD]
  apply mixF 1 (by kernel_rfl) (by rfl) (by rfl)
  ·(intro w' hx; obtain ⟨x0, x1, x2, x3⟩ := (b10.ext hx).c4; obtain ⟨y0, y1, y2, y3, y4, y5, y6⟩ := F1 w' hx; go_simp <;> with_reducible rfl)
  simp only [pA, pB, pC, pD]
  apply mixF 2 (by kernel_rfl) (by rfl) (by rfl)
  ·(intro w' hx; obtain ⟨x0, x1, x2, x3⟩ := (b10.ext hx).c4; obtain ⟨y0, y1, y2, y3, y4, y5, y6⟩ := F1 w' hx; go_simp <;> with_reducible rfl)
  simp only [pA, pB, pC, pD]
  apply mixF 3 (by kernel_rfl) (by rfl) (by rfl)
  ·(intro w' hx; obtain ⟨x0, x1, x2, x3⟩ := (b10.ext hx).c4; obtain ⟨y0, y1, y2, y3, y4, y5, y6⟩ := F1 w' hx; go_simp <;> with_reducible rfl)
  simp only [pA, pB, pC, pD]
  apply mixF 4 (by kernel_rfl) (by rfl) (by rfl)
  ·(intro w' hx; obtain ⟨x0, x1, x2, x3⟩ := (b10.ext hx).c4; obtain ⟨y0, y1, y2, y3, y4, y5, y6⟩ := F1 w' hx; go_simp <;> with_reducible rfl)
  simp only [pA, pB, pC, pD]
  apply mixF 5 (by kernel_rfl) (by rfl) (by rfl)
  ·(intro w' hx; obtain ⟨x0, x1, x2, x3⟩ := (b10.ext hx).c4; obtain ⟨y0, y1, y2, y3, y4, y5, y6⟩ := F1 w' hx; go_simp <;> with_reducible rfl)
  simp only [pA, pB, pC, pD]
  apply mixF 6 (by kernel_rfl) (by rfl) (by rfl)
  ·(intro w' hx; obtain ⟨x0, x1, x2, x3⟩ := (b10.ext hx).c4; obtain ⟨y0, y1, y2, y3, y4, y5, y6⟩ := F1 w' hx; go_simp <;> with_reducible rfl)
  simp only [pA, pB, pC, pD]
  apply mixF 7 (by kernel_rfl) (by rfl) (by rfl)
  ·(intro w' hx; obtain ⟨x0, x1, x2, x3⟩ := (b10.ext hx).c4; obtain ⟨y0, y1, y2, y3, y4, y5, y6⟩ := F1 w' hx; go_simp <;> with_reducible rfl)
  simp only [pA, pB, pC, pD]
  apply mixF 8 (by kernel_rfl) (by rfl) (by rfl)
  ·(intro w' hx; obtain ⟨x0, x1, x2, x3⟩ := (b10.ext hx).c4; obtain ⟨y0, y1, y2, y3, y4, y5, y6⟩ := F1 w' hx; go_simp <;> with_reducible rfl)
  simp only [pA, pB, pC, pD]
  apply mixF 9 (by kernel_rfl) (by rfl) (by rfl)
  ·(intro w' hx; obtain ⟨x0, x1, x2, x3⟩ := (b10.ext hx).c4; obtain ⟨y0, y1, y2, y3, y4, y5, y6⟩ := F1 w' hx; go_simp <;> with_reducible rfl)
  simp only [pA, pB, pC, pD]
  apply mixF 10 (by kernel_rfl) (by rfl) (by rfl)
  ·(intro w' hx; obtain ⟨x0, x1, x2, x3⟩ := (b10.ext hx).c4; obtain ⟨y0, y1, y2, y3, y4, y5, y6⟩ := F1 w' hx; go_simp <;> with_reducible rfl)
  simp only [pA, pB, pC, pD]
  apply mixF 11 (by kernel_rfl) (by rfl) (by rfl)
  ·(intro w' hx; obtain ⟨x0, x1, x2, x3⟩ := (b10.ext hx).c4; obtain ⟨y0, y1, y2, y3, y4, y5, y6⟩ := F1 w' hx; go_simp <;> with_reducible rfl)
  simp only [pA, pB, pC, pD]
  apply mixF 12 (by kernel_rfl) (by rfl) (by rfl)
  ·(intro w' hx; obtain ⟨x0, x1, x2, x3⟩ := (b10.ext hx).c4; obtain ⟨y0, y1, y2, y3, y4, y5, y6⟩ := F1 w' hx; go_simp <;> with_reducible rfl)
  simp only [pA, pB, pC, pD]
  apply mixF 13 (by kernel_rfl) (by rfl) (by rfl)
  ·(intro w' hx; obtain ⟨x0, x1, x2, x3⟩ := (b10.ext hx).c4; obtain ⟨y0, y1, y2, y3, y4, y5, y6⟩ := F1 w' hx; go_simp <;> with_reducible rfl)
  simp only [pA, pB, pC, pD]
  clear F1
  refine mixS 14 (by kernel_rfl) (by kernel_rfl) (by rfl) (by rfl) (fun K hK => ?_)
  go_wp2_with (go_at_call 41; refine (refGentle_v s3 HG.out ⟨_, rfl, hu1⟩).mono ?_; rintro e w12 ⟨rfl, he⟩)
  refine hK.out _ _ (he) ?_
  clear hK K
  try simp only [pA, pB, pC, pD]
  have hx := ext_trans hx he
  have s3 := s3.ext he
  have b10 := b10.ext he
  have b5 := b5.ext he
  have hu1 := hu1.ext he
  clear he
  apply mixF 15 (by kernel_rfl) (by rfl) (by rfl)
  ·(intro w' hx; go_simp <;> with_reducible rfl)
  simp only [pA, pB, pC, pD]
  refine mixEnd (by kernel_rfl) ?_
  cases hgt : gentle y z with
  | false =>
   have HFIN : Hid (l.length ≤ 100 → yWalkTo sNew l = a) := Lib.hid (fun _ => by rw [HY.out, HST.out, if_neg (by rw [hgt]; simp)]; omega)
   clear hgt HY HST HG s3 b10 hu1 qa qb
   go_wp2_with fail
   refine (mayWalk_v (hlw.ext hx)).mono ?_
   rintro e15 w15 ⟨rfl, he⟩
   have hx := ext_trans hx he
   have b5 := b5.ext he
   clear he
   generalize yWalkTo sNew l = kk at HFIN ⊢
   by_cases hlen : n ≤ 100
   ·have q1 : decide ((n : Int) ≤ 100) = true := by simp; omega
    have q2 : decide (n ≤ 100) = true := by simp; omega
    have hk : kk = a := HFIN.out (by rw [← HN.out]; exact hlen)
    have qk : ((kk : Int) != (a : Int)) = false := by rw [hk]; simp
    have qk2 : (kk != a) = false := by rw [hk]; simp
    clear hk hlen
    go_upto_region 12 with (fail)
    clear q1 q2 qk qk2 HFIN
    have hm := hmw.ext hx
    have hs := hsw.ext hx
    go_wp2_with fail
    refine (rightRecords_v hm).mono ?_
    rintro e16 w16 ⟨rfl, he⟩
    have hx := ext_trans hx he
    have hm := hm.ext he
    have hs := hs.ext he
    have b5 := b5.ext he
    clear he
    cases hr : mRight recs with
    | false =>
     clear hr
     go_wp2_with fail
     go_ret
     exact ⟨rfl, hx⟩
    | true =>
     have HR := Lib.hid (right_parts hr)
     clear hr
     go_upto_region 14 with (fail)
     have hd0 : Ext w16 w16.drew := (Below.refl _ _).drew
     have hx := ext_trans hx hd0
     have hm := hm.ext hd0
     have hs := hs.ext hd0
     have b5 := b5.ext hd0
     clear hd0
     refine wp_region_ext 8 [0, 1, 3, 4, 6, 7] false rfl (by kernel_rfl) (by kernel_rfl) ?_
     generalize w16.drew = D at hx hm hs b5 ⊢
     apply mixF 0 (by kernel_rfl) (by rfl) (by rfl)
     ·(intro w' hx; obtain ⟨y0, y1, y2, y3, y4, y5, y6⟩ := (b5.ext hx).c7; go_simp <;> with_reducible rfl)
     simp only [pA, pB, pC, pD]
     apply mixF 1 (by kernel_rfl) (by rfl) (by rfl)
     ·(intro w' hx; obtain ⟨y0, y1, y2, y3, y4, y5, y6⟩ := (b5.ext hx).c7; go_simp <;> with_reducible rfl)
     simp only [pA, pB, pC, pD]
     apply mixF 3 (by kernel_rfl) (by rfl) (by rfl)
     ·(intro w' hx; obtain ⟨y0, y1, y2, y3, y4, y5, y6⟩ := (b5.ext hx).c7; go_simp <;> with_reducible rfl)
     simp only [pA, pB, pC, pD]
     apply mixF 4 (by kernel_rfl) (by rfl) (by rfl)
     ·(intro w' hx; obtain ⟨y0, y1, y2, y3, y4, y5, y6⟩ := (b5.ext hx).c7; go_simp <;> with_reducible rfl)
     simp only [pA, pB, pC, pD]
     refine mixS 2 (by kernel_rfl) (by kernel_rfl) (by rfl) (by rfl) (fun K hK => ?_)
     go_wp2_with (go_at_call 48; refine (mayLists_v hm HR.out.1 HR.out.2 hs).mono ?_; rintro e w17 ⟨v17, rfl, R17, he⟩)
     refine hK.out _ _ (he) ?_
     clear hK K
     try simp only [pA, pB, pC, pD]
     have hx := ext_trans hx he
     have hm := hm.ext he
     have hs := hs.ext he
     clear he b5
     refine mixS 5 (by kernel_rfl) (by kernel_rfl) (by rfl) (by rfl) (fun K hK => ?_)
     go_wp2_with (go_at_call 49; refine (refLists_v hm HR.out.1 HR.out.2 hs).mono ?_; rintro e w18 ⟨v18, rfl, R18, he⟩)
     refine hK.out _ _ (he) ?_
     clear hK K
     try simp only [pA, pB, pC, pD]
     have hx := ext_trans hx he
     have R17 := R17.ext he
     clear he hm hs
     apply mixF 6 (by kernel_rfl) (by rfl) (by rfl)
     ·(intro w' hx; go_simp <;> with_reducible rfl)
     simp only [pA, pB, pC, pD]
     apply mixF 7 (by kernel_rfl) (by rfl) (by rfl)
     ·(intro w' hx; go_simp <;> with_reducible rfl)
     simp only [pA, pB, pC, pD]
     refine mixEnd (by kernel_rfl) ?_
     generalize yLists recs x = ls at R17 R18
     obtain ⟨A17, n17, c17, rfl, _, hm17, HN17⟩ := R17.form
     obtain ⟨A18, n18, c18, rfl, _, _, HN18⟩ := R18.form
     obtain rfl : n18 = n17 := HN18.out.trans HN17.out.symm
     unfold maxLen at hm17
     go_upto_region 18 with (fail)
     go_loopw [88] (fun i wq => ∃ b : Nat, b ≤ n18 ∧ i = .int .i64 b ∧ Ext w18 wq) (fun i _ => n18 - (intOf i).toNat)
     case atStart => exact ⟨0, by omega, rfl, Below.refl _ _⟩
     case round =>
      obtain ⟨b, hb, rfl, hxq⟩ := hrel
      by_cases hlb : b < n18
      ·have i0 : (0 : Int) ≤ (b : Int) := by omega
       have i1 : (b : Int) < (n18 : Int) := by omega
       obtain ⟨g1, o1, u1, rfl, hg1, c1, r1⟩ := (R17.ext hxq).at_ hlb
       obtain ⟨g2, o2, u2, rfl, hg2, c2, r2⟩ := (R18.ext hxq).at_ hlb
       generalize ls.getD b [] = rs at r1 r2
       obtain ⟨A1, n1, c1', rfl, _, _, _⟩ := r1.form
       obtain ⟨A2, n2, c2', rfl, _, _, _⟩ := r2.form
       go_upto_region 20 with (fail)
       have hd0 : Ext wr wr.drew := (Below.refl _ _).drew
       have c1 := (hd0.cell (p := ⟨g1, o1 + b, none⟩) hg1).trans c1
       have c2 := (hd0.cell (p := ⟨g2, o2 + b, none⟩) hg2).trans c2
       have hg1 := Nat.lt_of_lt_of_le hg1 hd0.size
       have hg2 := Nat.lt_of_lt_of_le hg2 hd0.size
       have hxq := ext_trans hxq hd0
       have r1 := r1.ext hd0
       have r2 := r2.ext hd0
       clear hd0
       refine wp_region_ext 10 [0, 1, 2, 3, 4, 5, 6, 7, 9] false rfl (by kernel_rfl) (by kernel_rfl) ?_
       generalize wr.drew = D at hxq c1 c2 hg1 hg2 r1 r2 ⊢
       apply mixF 0 (by kernel_rfl) (by rfl) (by rfl)
       ·(intro w' hx; have x1 := (hx.cell (p := ⟨g1, o1 + b, none⟩) hg1).trans c1; have x2 := (hx.cell (p := ⟨g2, o2 + b, none⟩) hg2).trans c2; go_simp <;> with_reducible rfl)
       simp only [pA, pB, pC, pD]
       apply mixF 1 (by kernel_rfl) (by rfl) (by rfl)
       ·(intro w' hx; have x1 := (hx.cell (p := ⟨g1, o1 + b, none⟩) hg1).trans c1; have x2 := (hx.cell (p := ⟨g2, o2 + b, none⟩) hg2).trans c2; go_simp <;> with_reducible rfl)
       simp only [pA, pB, pC, pD]
       apply mixF 2 (by kernel_rfl) (by rfl) (by rfl)
       ·(intro w' hx; have x1 := (hx.cell (p := ⟨g1, o1 + b, none⟩) hg1).trans c1; have x2 := (hx.cell (p := ⟨g2, o2 + b, none⟩) hg2).trans c2; go_simp <;> with_reducible rfl)
       simp only [pA, pB, pC, pD]
       apply mixF 3 (by kernel_rfl) (by rfl) (by rfl)
       ·(intro w' hx; have x1 := (hx.cell (p := ⟨g1, o1 + b, none⟩) hg1).trans c1; have x2 := (hx.cell (p := ⟨g2, o2 + b, none⟩) hg2).trans c2; go_simp <;> with_reducible rfl)
       simp only [pA, pB, pC, pD]
       apply mixF 4 (by kernel_rfl) (by rfl) (by rfl)
       ·(intro w' hx; have x1 := (hx.cell (p := ⟨g1, o1 + b, none⟩) hg1).trans c1; have x2 := (hx.cell (p := ⟨g2, o2 + b, none⟩) hg2).trans c2; go_simp <;> with_reducible rfl)
       simp only [pA, pB, pC, pD]
       apply mixF 5 (by kernel_rfl) (by rfl) (by rfl)
       ·(intro w' hx; have x1 := (hx.cell (p := ⟨g1, o1 + b, none⟩) hg1).trans c1; have x2 := (hx.cell (p := ⟨g2, o2 + b, none⟩) hg2).trans c2; go_simp <;> with_reducible rfl)
       simp only [pA, pB, pC, pD]
       apply mixF 6 (by kernel_rfl) (by rfl) (by rfl)
       ·(intro w' hx; have x1 := (hx.cell (p := ⟨g1, o1 + b, none⟩) hg1).trans c1; have x2 := (hx.cell (p := ⟨g2, o2 + b, none⟩) hg2).trans c2; go_simp <;> with_reducible rfl)
       simp only [pA, pB, pC, pD]
       apply mixF 7 (by kernel_rfl) (by rfl) (by rfl)
       ·(intro w' hx; have x1 := (hx.cell (p := ⟨g1, o1 + b, none⟩) hg1).trans c1; have x2 := (hx.cell (p := ⟨g2, o2 + b, none⟩) hg2).trans c2; go_simp <;> with_reducible rfl)
       simp only [pA, pB, pC, pD]
       refine mixS 8 (by kernel_rfl) (by kernel_rfl) (by rfl) (by rfl) (fun K hK => ?_)
       go_wp2_with (go_at_call 35; refine (rSameRecs_v r1 r2).mono ?_; rintro e w20 ⟨rfl, he⟩)
       refine hK.out _ _ (he) ?_
       clear hK K
       try simp only [pA, pB, pC, pD]
       rw [mSame_refl]
       have hxq := ext_trans hxq he
       clear he c1 c2 r1 r2
       apply mixF 9 (by kernel_rfl) (by rfl) (by rfl)
       ·(intro w' hx; go_simp <;> with_reducible rfl)
       simp only [pA, pB, pC, pD]
       refine mixEnd (by kernel_rfl) ?_
       go_wp2_with fail
       refine ⟨⟨b + 1, by omega, rfl, hxq⟩, ?_⟩
       simp only [intOf]
       omega
      ·obtain rfl : b = n18 := by omega
       go_wp2_with fail
       go_ret
       exact ⟨rfl, ext_trans hx hxq⟩
   ·have q1 : decide ((n : Int) ≤ 100) = false := by simp; omega
    have q2 : decide (n ≤ 100) = false := by simp; omega
    clear hlen
    go_upto_region 12 with (fail)
    clear q1 q2 HFIN
    have hm := hmw.ext hx
    have hs := hsw.ext hx
    go_wp2_with fail
    refine (rightRecords_v hm).mono ?_
    rintro e16 w16 ⟨rfl, he⟩
    have hx := ext_trans hx he
    have hm := hm.ext he
    have hs := hs.ext he
    have b5 := b5.ext he
    clear he
    cases hr : mRight recs with
    | false =>
     clear hr
     go_wp2_with fail
     go_ret
     exact ⟨rfl, hx⟩
    | true =>
     have HR := Lib.hid (right_parts hr)
     clear hr
     go_upto_region 14 with (fail)
     have hd0 : Ext w16 w16.drew := (Below.refl _ _).drew
     have hx := ext_trans hx hd0
     have hm := hm.ext hd0
     have hs := hs.ext hd0
     have b5 := b5.ext hd0
     clear hd0
     refine wp_region_ext 8 [0, 1, 3, 4, 6, 7] false rfl (by kernel_rfl) (by kernel_rfl) ?_
     generalize w16.drew = D at hx hm hs b5 ⊢
     apply mixF 0 (by kernel_rfl) (by rfl) (by rfl)
     ·(intro w' hx; obtain ⟨y0, y1, y2, y3, y4, y5, y6⟩ := (b5.ext hx).c7; go_simp <;> with_reducible rfl)
     simp only [pA, pB, pC, pD]
     apply mixF 1 (by kernel_rfl) (by rfl) (by rfl)
     ·(intro w' hx; obtain ⟨y0, y1, y2, y3, y4, y5, y6⟩ := (b5.ext hx).c7; go_simp <;> with_reducible rfl)
     simp only [pA, pB, pC, pD]
     apply mixF 3 (by kernel_rfl) (by rfl) (by rfl)
     ·(intro w' hx; obtain ⟨y0, y1, y2, y3, y4, y5, y6⟩ := (b5.ext hx).c7; go_simp <;> with_reducible rfl)
     simp only [pA, pB, pC, pD]
     apply mixF 4 (by kernel_rfl) (by rfl) (by rfl)
     ·(intro w' hx; obtain ⟨y0, y1, y2, y3, y4, y5, y6⟩ := (b5.ext hx).c7; go_simp <;> with_reducible rfl)
     simp only [pA, pB, pC, pD]
     refine mixS 2 (by kernel_rfl) (by kernel_rfl) (by rfl) (by rfl) (fun K hK => ?_)
     go_wp2_with (go_at_call 48; refine (mayLists_v hm HR.out.1 HR.out.2 hs).mono ?_; rintro e w17 ⟨v17, rfl, R17, he⟩)
     refine hK.out _ _ (he) ?_
     clear hK K
     try simp only [pA, pB, pC, pD]
     have hx := ext_trans hx he
     have hm := hm.ext he
     have hs := hs.ext he
     clear he b5
     refine mixS 5 (by kernel_rfl) (by kernel_rfl) (by rfl) (by rfl) (fun K hK => ?_)
     go_wp2_with (go_at_call 49; refine (refLists_v hm HR.out.1 HR.out.2 hs).mono ?_; rintro e w18 ⟨v18, rfl, R18, he⟩)
     refine hK.out _ _ (he) ?_
     clear hK K
     try simp only [pA, pB, pC, pD]
     have hx := ext_trans hx he
     have R17 := R17.ext he
     clear he hm hs
     apply mixF 6 (by kernel_rfl) (by rfl) (by rfl)
     ·(intro w' hx; go_simp <;> with_reducible rfl)
     simp only [pA, pB, pC, pD]
     apply mixF 7 (by kernel_rfl) (by rfl) (by rfl)
     ·(intro w' hx; go_simp <;> with_reducible rfl)
     simp only [pA, pB, pC, pD]
     refine mixEnd (by kernel_rfl) ?_
     generalize yLists recs x = ls at R17 R18
     obtain ⟨A17, n17, c17, rfl, _, hm17, HN17⟩ := R17.form
     obtain ⟨A18, n18, c18, rfl, _, _, HN18⟩ := R18.form
     obtain rfl : n18 = n17 := HN18.out.trans HN17.out.symm
     unfold maxLen at hm17
     go_upto_region 18 with (fail)
     go_loopw [88] (fun i wq => ∃ b : Nat, b ≤ n18 ∧ i = .int .i64 b ∧ Ext w18 wq) (fun i _ => n18 - (intOf i).toNat)
     case atStart => exact ⟨0, by omega, rfl, Below.refl _ _⟩
     case round =>
      obtain ⟨b, hb, rfl, hxq⟩ := hrel
      by_cases hlb : b < n18
      ·have i0 : (0 : Int) ≤ (b : Int) := by omega
       have i1 : (b : Int) < (n18 : Int) := by omega
       obtain ⟨g1, o1, u1, rfl, hg1, c1, r1⟩ := (R17.ext hxq).at_ hlb
       obtain ⟨g2, o2, u2, rfl, hg2, c2, r2⟩ := (R18.ext hxq).at_ hlb
       generalize ls.getD b [] = rs at r1 r2
       obtain ⟨A1, n1, c1', rfl, _, _, _⟩ := r1.form
       obtain ⟨A2, n2, c2', rfl, _, _, _⟩ := r2.form
       go_upto_region 20 with (fail)
       have hd0 : Ext wr wr.drew := (Below.refl _ _).drew
       have c1 := (hd0.cell (p := ⟨g1, o1 + b, none⟩) hg1).trans c1
       have c2 := (hd0.cell (p := ⟨g2, o2 + b, none⟩) hg2).trans c2
       have hg1 := Nat.lt_of_lt_of_le hg1 hd0.size
       have hg2 := Nat.lt_of_lt_of_le hg2 hd0.size
       have hxq := ext_trans hxq hd0
       have r1 := r1.ext hd0
       have r2 := r2.ext hd0
       clear hd0
       refine wp_region_ext 10 [0, 1, 2, 3, 4, 5, 6, 7, 9] false rfl (by kernel_rfl) (by kernel_rfl) ?_
       generalize wr.drew = D at hxq c1 c2 hg1 hg2 r1 r2 ⊢
       apply mixF 0 (by kernel_rfl) (by rfl) (by rfl)
       ·(intro w' hx; have x1 := (hx.cell (p := ⟨g1, o1 + b, none⟩) hg1).trans c1; have x2 := (hx.cell (p := ⟨g2, o2 + b, none⟩) hg2).trans c2; go_simp <;> with_reducible rfl)
       simp only [pA, pB, pC, pD]
       apply mixF 1 (by kernel_rfl) (by rfl) (by rfl)
       ·(intro w' hx; have x1 := (hx.cell (p := ⟨g1, o1 + b, none⟩) hg1).trans c1; have x2 := (hx.cell (p := ⟨g2, o2 + b, none⟩) hg2).trans c2; go_simp <;> with_reducible rfl)
       simp only [pA, pB, pC, pD]
       apply mixF 2 (by kernel_rfl) (by rfl) (by rfl)
       ·(intro w' hx; have x1 := (hx.cell (p := ⟨g1, o1 + b, none⟩) hg1).trans c1; have x2 := (hx.cell (p := ⟨g2, o2 + b, none⟩) hg2).trans c2; go_simp <;> with_reducible rfl)
       simp only [pA, pB, pC, pD]
       apply mixF 3 (by kernel_rfl) (by rfl) (by rfl)
       ·(intro w' hx; have x1 := (hx.cell (p := ⟨g1, o1 + b, none⟩) hg1).trans c1; have x2 := (hx.cell (p := ⟨g2, o2 + b, none⟩) hg2).trans c2; go_simp <;> with_reducible rfl)
       simp only [pA, pB, pC, pD]
       apply mixF 4 (by kernel_rfl) (by rfl) (by rfl)
       ·(intro w' hx; have x1 := (hx.cell (p := ⟨g1, o1 + b, none⟩) hg1).trans c1; have x2 := (hx.cell (p := ⟨g2, o2 + b, none⟩) hg2).trans c2; go_simp <;> with_reducible rfl)
       simp only [pA, pB, pC, pD]
       apply mixF 5 (by kernel_rfl) (by rfl) (by rfl)
       ·(intro w' hx; have x1 := (hx.cell (p := ⟨g1, o1 + b, none⟩) hg1).trans c1; have x2 := (hx.cell (p := ⟨g2, o2 + b, none⟩) hg2).trans c2; go_simp <;> with_reducible rfl)
       simp only [pA, pB, pC, pD]
       apply mixF 6 (by kernel_rfl) (by rfl) (by rfl)
       ·(intro w' hx; have x1 := (hx.cell (p := ⟨g1, o1 + b, none⟩) hg1).trans c1; have x2 := (hx.cell (p := ⟨g2, o2 + b, none⟩) hg2).trans c2; go_simp <;> with_reducible rfl)
       simp only [pA, pB, pC, pD]
       apply mixF 7 (by kernel_rfl) (by rfl) (by rfl)
       ·(intro w' hx; have x1 := (hx.cell (p := ⟨g1, o1 + b, none⟩) hg1).trans c1; have x2 := (hx.cell (p := ⟨g2, o2 + b, none⟩) hg2).trans c2; go_simp <;> with_reducible rfl)
       simp only [pA, pB, pC, pD]
       refine mixS 8 (by kernel_rfl) (by kernel_rfl) (by rfl) (by rfl) (fun K hK => ?_)
       go_wp2_with (go_at_call 35; refine (rSameRecs_v r1 r2).mono ?_; rintro e w20 ⟨rfl, he⟩)
       refine hK.out _ _ (he) ?_
       clear hK K
       try simp only [pA, pB, pC, pD]
       rw [mSame_refl]
       have hxq := ext_trans hxq he
       clear he c1 c2 r1 r2
       apply mixF 9 (by kernel_rfl) (by rfl) (by rfl)
       ·(intro w' hx; go_simp <;> with_reducible rfl)
       simp only [pA, pB, pC, pD]
       refine mixEnd (by kernel_rfl) ?_
       go_wp2_with fail
       refine ⟨⟨b + 1, by omega, rfl, hxq⟩, ?_⟩
       simp only [intOf]
       omega
      ·obtain rfl : b = n18 := by omega
       go_wp2_with fail
       go_ret
       exact ⟨rfl, ext_trans hx hxq⟩
  | true =>
   have HY2 : Hid (yWalkTo sNew l = (a + 1 : Nat) + yWalkTo (yDo y z).1 (l.drop (a + 1))) := Lib.hid (by rw [HY.out, HST.out, if_pos hgt]; omega)
   clear hgt HY HST qa qb
   go_upto_region 7 with (fail)
   have he : Ext w12 w12.drew := (Below.refl _ _).drew
   have hx := ext_trans hx he
   have s3 := s3.ext he
   have b10 := b10.ext he
   have b5 := b5.ext he
   have hu1 := hu1.ext he
   clear he
   refine wp_region_ue 11 [8, 9] [0, 1, 2, 3, 4, 6, 7, 8, 9] rfl (by kernel_rfl) (by kernel_rfl) ?_
   generalize w12.drew = D at hx s3 b10 b5 hu1 ⊢
   have F1 := fun w' (h : Ext D w') => f1 w' (ext_trans hx h)
   clear f1
   apply uF 0 (by kernel_rfl) (by rfl) (by rfl) (by rfl)
   ·(intro w' hx; obtain ⟨x0, x1, x2, x3⟩ := (b10.ext hx).c4; obtain ⟨y0, y1, y2, y3, y4, y5, y6⟩ := F1 w' hx; go_simp <;> with_reducible rfl)
   simp only [pA, pB, pC, pD]
   apply uF 1 (by kernel_rfl) (by rfl) (by rfl) (by rfl)
   ·(intro w' hx; obtain ⟨x0, x1, x2, x3⟩ := (b10.ext hx).c4; obtain ⟨y0, y1, y2, y3, y4, y5, y6⟩ := F1 w' hx; go_simp <;> with_reducible rfl)
   simp only [pA, pB, pC, pD]
   apply uF 2 (by kernel_rfl) (by rfl) (by rfl) (by rfl)
   ·(intro w' hx; obtain ⟨x0, x1, x2, x3⟩ := (b10.ext hx).c4; obtain ⟨y0, y1, y2, y3, y4, y5, y6⟩ := F1 w' hx; go_simp <;> with_reducible rfl)
   simp only [pA, pB, pC, pD]
   apply uF 3 (by kernel_rfl) (by rfl) (by rfl) (by rfl)
   ·(intro w' hx; obtain ⟨x0, x1, x2, x3⟩ := (b10.ext hx).c4; obtain ⟨y0, y1, y2, y3, y4, y5, y6⟩ := F1 w' hx; go_simp <;> with_reducible rfl)
   simp only [pA, pB, pC, pD]
   apply uF 4 (by kernel_rfl) (by rfl) (by rfl) (by rfl)
   ·(intro w' hx; obtain ⟨x0, x1, x2, x3⟩ := (b10.ext hx).c4; obtain ⟨y0, y1, y2, y3, y4, y5, y6⟩ := F1 w' hx; go_simp <;> with_reducible rfl)
   simp only [pA, pB, pC, pD]
   clear F1
   refine uS 5 (by kernel_rfl) (by kernel_rfl) (by rfl) (by rfl) (fun K hK => ?_)
   go_wp2_with (go_at_call 39; refine (refStep_v hx.size s3 HG.out ⟨_, rfl, hu1⟩).mono ?_; rintro e w13 ⟨v13, rfl, s13, he⟩)
   refine hK.out _ _ (he) ?_
   clear hK K
   try simp only [pA, pB, pC, pD]
   have hx := ext_trans hx he
   have b10 := b10.ext he
   have b5 := b5.ext he
   clear he s3 hu1
   have HG2 := Lib.hid (step_good HG.out z)
   generalize (yDo y z).1 = y2 at s13 HY2 HG2
   generalize (yDo y z).2.1 = nn
   generalize (yDo y z).2.2 = qq
   obtain ⟨A13, n13, c13, E13, m13, e13, F13, k13, f13, rfl, _, _, _, _, _, _, _, _⟩ := s13.form
   apply uF 6 (by kernel_rfl) (by rfl) (by rfl) (by rfl)
   ·(intro w' hx; go_simp <;> with_reducible rfl)
   simp only [pA, pB, pC, pD]
   apply uF 7 (by kernel_rfl) (by rfl) (by rfl) (by rfl)
   ·(intro w' hx; go_simp <;> with_reducible rfl)
   simp only [pA, pB, pC, pD]
   apply uU 8 (by kernel_rfl) (by rfl) (by rfl)
   ·(intro w'; go_simp <;> with_reducible rfl)
   simp only [pA, pB, pC, pD]
   apply uU 9 (by kernel_rfl) (by rfl) (by rfl)
   ·(intro w'; go_simp <;> with_reducible rfl)
   simp only [pA, pB, pC, pD]
   refine uL 10 (by kernel_rfl) (by kernel_rfl) (by kernel_rfl) (by rfl) (by rfl) (fun K hK => ?_)
   have hK' := Lib.hid hK
   clear hK
   have kb := b10.kd
   obtain ⟨b10_0, b10_1, b10_2, b10_3⟩ := b10.c4
   have b10_z := b10.free
   have b10_l := b10.lt
   go_wp2
   refine hK'.out _ _ ?_
   clear hK' K
   refine uEnd (by kernel_rfl) ?_
   try clear b10_0 b10_1 b10_2 b10_3 b10_z b10_l
   generalize hwn : World.setCell (World.setCell (World.setCell (World.setCell w13 _ _) _ _) _ _) _ _ = w14
   have b5 : Box w14 gd 67 #[.int .i64 x.kind, .int .i64 x.n, .int .i64 x.m, .int .i64 x.deed.kind, .int .i64 x.deed.key, .int .i64 x.deed.n, .slice A0 n0 c0] := by rw [← hwn]; (repeat (with_reducible (first | assumption | refine Box.alloc ?_ _ | refine Box.setOther ?_ (by simp <;> omega) _)))
   have s13 := s13.kept (w' := w14) (by rw [← hwn]; (repeat (with_reducible (first | assumption | exact Kept.refl _ _ _ | (apply Kept.setK; rotate_left; (repeat (first | assumption | apply Kd.set | apply Kd.alloc | apply Kd.drew)); decide; omega) | refine Kept.allocK ?_ _ | refine Kept.drewK ?_))))
   have hx : Ext w w14 := by rw [← hwn]; (repeat (with_reducible (first | assumption | exact Below.refl _ _ | refine Below.setCell ?_ (by simp <;> omega) _ | refine Below.alloc ?_ (by simp <;> omega) _ | refine Below.drew ?_ | refine below_drewN ?_ _)))
   have b10 : Box w14 g10 33 #[.slice A13 n13 c13, .slice E13 m13 e13, .slice F13 k13 f13, .int .i64 y2.next] := by rw [← hwn]; exact (((b10.set 0 _).set 1 _).set 2 _).set 3 _
   clear hwn kb
   go_wp2_with fail
   refine ⟨⟨a + 1, by omega, HA1, rfl, ⟨_, _, _, _, _, _, _, _, _, _, HY2, HG2, b10, s13⟩, b5, hx⟩, ?_⟩
   simp only [intOf]
   omega
end Go.Proofs.YtmcgbdbhpnplmaaGreat
