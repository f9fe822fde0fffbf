/- Walks: scref6.Begin. -/
import Derived.Test.YtmcgbdbhpnplmaaGreatSc4
import Derived.Test.YtmcgbdbhpnplmaaGreatFsA
import Derived.Test.YtmcgbdbhpnplmaaGreatIx2
import Derived.Test.YtmcgbdbhpnplmaaGreatPr4
namespace Go.Proofs.YtmcgbdbhpnplmaaGreat
open Go Go.RowKit
set_option maxRecDepth 100000 in
set_option maxHeartbeats 4000000 in
theorem refBegin_v {base : Nat} {v dv : Value} {s : Sto} {d : Ded} {w : World} (hbase : base ≤ w.heap.size) (h : StoV tS w base v s) (g : sGood s) (hd : DedV w base dv d) :
  Calls Tryz.prog 18 #[v, dv] w fun e w' => ∃ v', e = .returned (.tuple #[v', .int .i64 (sBegin s d).2.1, .int .i64 (sBegin s d).2.2]) ∧ StoV tS w' base v' (sBegin s d).1 ∧ Ext w w' := by
 have hmm := @run_makeMap Tryz.prog
 have HMM := Lib.hid hmm
 clear hmm
 obtain ⟨A, n, c, E, m, e, F, k, f, rfl, hdk, hi, _, _, HK, _, _, hkf⟩ := h.form
 obtain ⟨_, _, _, e0, _, hfm, _⟩ := hi.form
 cases e0
 unfold maxLen at hfm
 obtain ⟨A0, n0, c0, rfl, _, hy0⟩ := hd.at_
 have HG := Lib.hid g
 have hkl : k ≤ 1001 := by have := right_len g.right; have := HK.out; omega
 clear g
 go_enter Tryz.func18, Tryz.ntmps18
 go_upto_region 1 with (fail)
 generalize hwn : World.alloc (World.alloc (World.alloc w _) _) _ = w1
 have hx : Ext w w1 := by rw [← hwn]; (repeat (with_reducible (first | assumption | exact Below.refl _ _ | refine Below.setCell ?_ (by simp <;> omega) _ | refine Below.alloc ?_ (by simp <;> omega) _ | refine Below.drew ?_ | refine below_drewN ?_ _)))
 have b2 : Box w1 w.heap.size 33 #[.slice A n c, .slice E m e, .slice F k f, .int .i64 s.next] := by rw [← hwn]; exact ((Box.new _ _ _ rfl).alloc _).alloc _
 have b3 : Box w1 (w.heap.size + 1) 25 #[.int .i64 d.kind, .int .i64 d.key, .int .i64 d.n, .slice A0 n0 c0] := by rw [← hwn]; exact (Box.new _ _ _ (by simp)).alloc _
 have b4 : Box w1 (w.heap.size + 2) 33 #[.slice none 0 0, .slice none 0 0, .slice none 0 0, .int .i64 0] := by rw [← hwn]; exact Box.new _ _ _ (by simp)
 clear hwn
 obtain ⟨g4, hg4⟩ : ∃ g, g = w.heap.size + 2 := ⟨_, rfl⟩
 obtain ⟨g3, hg3⟩ : ∃ g, g = w.heap.size + 1 := ⟨_, rfl⟩
 obtain ⟨g2, hg2⟩ : ∃ g, g = w.heap.size := ⟨_, rfl⟩
 rw [← hg4] at b4 ⊢
 rw [← hg3] at b3 ⊢
 rw [← hg2]
 rw [show Box w1 w.heap.size 33 #[.slice A n c, .slice E m e, .slice F k f, .int .i64 s.next] ↔ Box w1 g2 33 #[.slice A n c, .slice E m e, .slice F k f, .int .i64 s.next] by rw [hg2]] at b2
 have l2 : w.heap.size ≤ g2 := by omega
 have l3 : g2 < g3 := by omega
 have l4 : g3 < g4 := by omega
 clear hg2 hg3 hg4
 have h := h.ext hx
 have hd := hd.ext hx
 have hdk := hdk.ext hx
 have hi := hi.ext hx
 have hy0 := hy0.ext hx
 obtain ⟨b3_0, b3_1, b3_2, b3_3⟩ := b3.c4
 have b3_z := b3.free
 have b3_l := b3.lt
 go_wp2_with fail
 refine (rWrongDeed_v hd).mono ?_
 rintro e1 w2 ⟨rfl, he⟩
 try clear b3_0 b3_1 b3_2 b3_3 b3_z b3_l
 have hx := ext_trans hx he
 have h := h.ext he
 have hd := hd.ext he
 have hdk := hdk.ext he
 have hi := hi.ext he
 have hy0 := hy0.ext he
 have b2 := b2.ext he
 have b3 := b3.ext he
 have b4 := b4.ext he
 clear he
 by_cases hw : mWrong d = 0
 ·have HW := Lib.hid hw
  have q : (mWrong d != 0) = false := by simpa using hw
  clear hw
  go_upto_region 4 with (fail)
  clear q
  have he : Ext w2 w2.drew := (Below.refl _ _).drew
  have hx := ext_trans hx he
  have h := h.ext he
  have hd := hd.ext he
  have hdk := hdk.ext he
  have hi := hi.ext he
  have hy0 := hy0.ext he
  have b2 := b2.ext he
  have b3 := b3.ext he
  have b4 := b4.ext he
  clear he
  refine wp_region_ext 11 [0, 2, 4, 5, 6, 7, 8, 9, 10] false rfl (by kernel_rfl) (by kernel_rfl) ?_
  generalize w2.drew = D at hx h hd hdk hi hy0 b2 b3 b4 ⊢
  apply mixF 0 (by kernel_rfl) (by rfl) (by rfl)
  ·(intro w' hx; obtain ⟨x0, x1, x2, x3⟩ := (b2.ext hx).c4; obtain ⟨y0, y1, y2, y3⟩ := (b3.ext hx).c4; go_simp <;> with_reducible rfl)
  simp only [pA, pB, pC, pD]
  apply mixF 2 (by kernel_rfl) (by rfl) (by rfl)
  ·(intro w' hx; obtain ⟨x0, x1, x2, x3⟩ := (b2.ext hx).c4; obtain ⟨y0, y1, y2, y3⟩ := (b3.ext hx).c4; go_simp <;> with_reducible rfl)
  simp only [pA, pB, pC, pD]
  refine mixS 1 (by kernel_rfl) (by kernel_rfl) (by rfl) (by rfl) (fun K hK => ?_)
  go_wp2_with (go_at_call 26; refine (refRecs_v h (by have := HK.out; omega)).mono ?_; rintro e w5 ⟨v5, rfl, o5, he⟩)
  refine hK.out _ _ (he) ?_
  clear hK K
  try simp only [pA, pB, pC, pD]
  have r5 := o5.row (T := [51]) (by decide) (Nat.le_refl _)
  clear o5
  have hx := ext_trans hx he
  have hd := hd.ext he
  have hdk := hdk.ext he
  have hi := hi.ext he
  have hy0 := hy0.ext he
  have b2 := b2.ext he
  have b3 := b3.ext he
  have b4 := b4.ext he
  clear he h
  refine mixS 3 (by kernel_rfl) (by kernel_rfl) (by rfl) (by rfl) (fun K hK => ?_)
  go_wp2_with (go_at_call 34; refine (rDo_d r5 (sRecs_right HG.out.right) (by have := HK.out; unfold sRecs; rw [List.length_map]; omega) hd HW.out).mono ?_; rintro e w6 ⟨v6, m6, q6, rfl, HM6, HQ6, _, he⟩)
  refine hK.out _ _ (he) ?_
  clear hK K
  try simp only [pA, pB, pC, pD]
  have hx := ext_trans hx he
  have hd := hd.ext he
  have hdk := hdk.ext he
  have hi := hi.ext he
  have hy0 := hy0.ext he
  have b2 := b2.ext he
  have b3 := b3.ext he
  have b4 := b4.ext he
  clear he r5
  apply mixF 4 (by kernel_rfl) (by rfl) (by rfl)
  ·(intro w' hx; go_simp <;> with_reducible rfl)
  simp only [pA, pB, pC, pD]
  apply mixF 5 (by kernel_rfl) (by rfl) (by rfl)
  ·(intro w' hx; go_simp <;> with_reducible rfl)
  simp only [pA, pB, pC, pD]
  apply mixF 6 (by kernel_rfl) (by rfl) (by rfl)
  ·(intro w' hx; go_simp <;> with_reducible rfl)
  simp only [pA, pB, pC, pD]
  apply mixF 7 (by kernel_rfl) (by rfl) (by rfl)
  ·(intro w' hx; go_simp <;> with_reducible rfl)
  simp only [pA, pB, pC, pD]
  apply mixF 8 (by kernel_rfl) (by rfl) (by rfl)
  ·(intro w' hx; go_simp <;> with_reducible rfl)
  simp only [pA, pB, pC, pD]
  apply mixF 9 (by kernel_rfl) (by rfl) (by rfl)
  ·(intro w' hx; go_simp <;> with_reducible rfl)
  simp only [pA, pB, pC, pD]
  apply mixF 10 (by kernel_rfl) (by rfl) (by rfl)
  ·(intro w' hx; go_simp <;> with_reducible rfl)
  simp only [pA, pB, pC, pD]
  refine mixEnd (by kernel_rfl) ?_
  by_cases hq : q6 = 0
  ·obtain rfl := hq
   have HQ6 := Lib.hid HQ6.out.symm
   have hmm := HMM.out
   obtain ⟨b2_0, b2_1, b2_2, b2_3⟩ := b2.c4
   have b2_z := b2.free
   have b2_l := b2.lt
   go_upto_region 11 with (fail)
   try clear b2_0 b2_1 b2_2 b2_3 b2_z b2_l
   clear hmm
   generalize hwn : World.alloc w6 _ = w7
   have hxd : Ext w6 w7 := by rw [← hwn]; exact ext_alloc _ _
   have hset : OwnSet w7 w6.heap.size 0 (fun _ => false) := by rw [← hwn]; exact OwnSet.made w6
   clear hwn
   obtain ⟨gm, hgm⟩ : ∃ g, g = w6.heap.size := ⟨_, rfl⟩
   have lm4 : g4 < gm := by have := b4.lt; omega
   rw [← hgm] at hset ⊢
   have HGM := Lib.hid hgm
   clear hgm
   go_loopw [13, 42] (fun vt i wr => ∃ a : Nat, a ≤ k ∧ i = .int .i64 a ∧ ∃ z : Int, vt = .int .i64 z ∧ Hid (z = atTo s.index d a) ∧ OwnSet wr gm a (usedTo s.index a) ∧ Ext w6 wr) (fun _ i _ => k - (intOf i).toNat)
   case atStart => exact ⟨0, by omega, rfl, -1, rfl, rfl, hset, hxd⟩
   case round =>
    clear hset hxd
    obtain ⟨a, ha, rfl, z, rfl, HAT, hset, hxd⟩ := hrel
    by_cases hlt : a < k
    ·have i0 : (0 : Int) ≤ (a : Int) := by omega
     have i1 : (a : Int) < (k : Int) := by omega
     have hal : a < s.index.length := HK.out ▸ hlt
     obtain ⟨g1, o1, u1, rfl, hg1, hu1, f1⟩ := hi.ent_x hlt
     have US := Lib.hid (used_step hal)
     have AS := Lib.hid (show atTo s.index d (a + 1) = if atTo s.index d a < 0 ∧ d.kind = 3 ∧ (s.index.getD a ⟨rZero, 0⟩).rcd.key = d.key ∧ (s.index.getD a ⟨rZero, 0⟩).rcd.ver = d.n then (s.index.getD a ⟨rZero, 0⟩).pair else atTo s.index d a from rfl)
     have hpo : intOk (s.index.getD a ⟨rZero, 0⟩).pair := by
      have := (eOne_iff _).1 (HG.out.right.1 _ (ent_mem hal))
      exact ⟨by omega, by omega⟩
     rw [← HAT.out] at AS
     generalize s.index.getD a ⟨rZero, 0⟩ = x at f1 hu1 US AS hpo
     obtain ⟨AX, nx, cx, rfl, _, _⟩ := hu1.form
     obtain ⟨x0, x1, x2, x3, x4⟩ := f1 _ hxd
     clear f1 hg1 hu1
     go_upto_region 13 with (fail)
     generalize hwn : World.alloc wr _ = w8
     have he : Ext wr w8 := by rw [← hwn]; exact ext_alloc _ _
     have b15 : Box w8 wr.heap.size 54 (cE x (.slice AX nx cx)) := by rw [← hwn]; exact Box.new _ _ _ (by simp)
     clear hwn x0 x1 x2 x3 x4
     have hsl := hset.lt
     have hxd := ext_trans hxd he
     have hset := hset.ext he
     clear he
     obtain ⟨g15, hg15⟩ : ∃ g, g = wr.heap.size := ⟨_, rfl⟩
     rw [← hg15] at b15 hsl ⊢
     clear hg15
     obtain ⟨b15_0, b15_1, b15_2, b15_3, b15_4⟩ := b15.c5
     have b15_z := b15.free
     have b15_l := b15.lt
     go_upto_region 14 with (at_mapUpdate; (refine wpl_mset rfl (.tmp 46) (.tmp 48) (.const (.bool true)) rfl rfl hset (by unfold maxLen; omega) rfl hpo rfl ?_; intro w9 set9 hg9))
     try clear b15_0 b15_1 b15_2 b15_3 b15_4 b15_z b15_l
     have hset2 : OwnSet w9 gm (a + 1) (usedTo s.index (a + 1)) := by rw [US.out]; exact set9
     have hxd : Ext w6 w9 := hxd.grown hg9 hxd.size (fun k e => by cases e; rw [HGM.out]; exact Nat.le_refl _)
     have b15 : Box w9 g15 54 (cE x (.slice AX nx cx)) := (hg9.block _ b15.lt (fun e => by injection e with e; omega)).trans b15
     have b3 := b3.ext hxd
     clear set9 hset hg9 US hpo
     by_cases k4 : z < 0
     ·have q4 : decide (z < 0) = true := by simpa using k4
      by_cases k1 : d.kind = 3
      ·have q1 : (d.kind == 3) = true := by simpa using k1
       by_cases k2 : x.rcd.key = d.key
       ·have q2 : (x.rcd.key == d.key) = true := by simpa using k2
        by_cases k3 : x.rcd.ver = d.n
        ·have q3 : (x.rcd.ver == d.n) = true := by simpa using k3
         have HAT2 : Hid (x.pair = atTo s.index d (a + 1)) := Lib.hid (by rw [AS.out, if_pos ⟨k4, k1, k2, k3⟩])
         clear k1 k2 k3
         obtain ⟨b15_0, b15_1, b15_2, b15_3, b15_4⟩ := b15.c5
         have b15_z := b15.free
         have b15_l := b15.lt
         obtain ⟨b3_0, b3_1, b3_2, b3_3⟩ := b3.c4
         have b3_z := b3.free
         have b3_l := b3.lt
         go_wp2_with fail
         try clear b15_0 b15_1 b15_2 b15_3 b15_4 b15_z b15_l b3_0 b3_1 b3_2 b3_3 b3_z b3_l
         refine ⟨⟨a + 1, by omega, rfl, _, rfl, HAT2, hset2, hxd⟩, ?_⟩
         simp only [intOf]
         omega
        ·have q3 : (x.rcd.ver == d.n) = false := by simpa using k3
         have HAT2 : Hid (z = atTo s.index d (a + 1)) := Lib.hid (by rw [AS.out, if_neg (fun h => k3 h.2.2.2)])
         clear k1 k2 k3
         obtain ⟨b15_0, b15_1, b15_2, b15_3, b15_4⟩ := b15.c5
         have b15_z := b15.free
         have b15_l := b15.lt
         obtain ⟨b3_0, b3_1, b3_2, b3_3⟩ := b3.c4
         have b3_z := b3.free
         have b3_l := b3.lt
         go_wp2_with fail
         try clear b15_0 b15_1 b15_2 b15_3 b15_4 b15_z b15_l b3_0 b3_1 b3_2 b3_3 b3_z b3_l
         refine ⟨⟨a + 1, by omega, rfl, _, rfl, HAT2, hset2, hxd⟩, ?_⟩
         simp only [intOf]
         omega
       ·have q2 : (x.rcd.key == d.key) = false := by simpa using k2
        have HAT2 : Hid (z = atTo s.index d (a + 1)) := Lib.hid (by rw [AS.out, if_neg (fun h => k2 h.2.2.1)])
        clear k1 k2
        obtain ⟨b15_0, b15_1, b15_2, b15_3, b15_4⟩ := b15.c5
        have b15_z := b15.free
        have b15_l := b15.lt
        obtain ⟨b3_0, b3_1, b3_2, b3_3⟩ := b3.c4
        have b3_z := b3.free
        have b3_l := b3.lt
        go_wp2_with fail
        try clear b15_0 b15_1 b15_2 b15_3 b15_4 b15_z b15_l b3_0 b3_1 b3_2 b3_3 b3_z b3_l
        refine ⟨⟨a + 1, by omega, rfl, _, rfl, HAT2, hset2, hxd⟩, ?_⟩
        simp only [intOf]
        omega
      ·have q1 : (d.kind == 3) = false := by simpa using k1
       have HAT2 : Hid (z = atTo s.index d (a + 1)) := Lib.hid (by rw [AS.out, if_neg (fun h => k1 h.2.1)])
       clear k1
       obtain ⟨b15_0, b15_1, b15_2, b15_3, b15_4⟩ := b15.c5
       have b15_z := b15.free
       have b15_l := b15.lt
       obtain ⟨b3_0, b3_1, b3_2, b3_3⟩ := b3.c4
       have b3_z := b3.free
       have b3_l := b3.lt
       go_wp2_with fail
       try clear b15_0 b15_1 b15_2 b15_3 b15_4 b15_z b15_l b3_0 b3_1 b3_2 b3_3 b3_z b3_l
       refine ⟨⟨a + 1, by omega, rfl, _, rfl, HAT2, hset2, hxd⟩, ?_⟩
       simp only [intOf]
       omega
     ·have q4 : decide (z < 0) = false := by simpa using k4
      have HAT2 : Hid (z = atTo s.index d (a + 1)) := Lib.hid (by rw [AS.out, if_neg (fun h => k4 h.1)])
      obtain ⟨b15_0, b15_1, b15_2, b15_3, b15_4⟩ := b15.c5
      have b15_z := b15.free
      have b15_l := b15.lt
      obtain ⟨b3_0, b3_1, b3_2, b3_3⟩ := b3.c4
      have b3_z := b3.free
      have b3_l := b3.lt
      go_wp2_with fail
      try clear b15_0 b15_1 b15_2 b15_3 b15_4 b15_z b15_l b3_0 b3_1 b3_2 b3_3 b3_z b3_l
      refine ⟨⟨a + 1, by omega, rfl, _, rfl, HAT2, hset2, hxd⟩, ?_⟩
      simp only [intOf]
      omega
    ·obtain rfl : a = k := by omega
     have HAT := Lib.hid (show z = atTo s.index d s.index.length by rw [← HK.out]; exact HAT.out)
     clear hlt ha
     by_cases hk3 : d.kind = 3
     ·have HB := Lib.hid (begin_take HG.out HW.out HQ6.out hk3)
      rw [← HAT.out] at HB
      have q1 : (d.kind == 3) = true := by simpa using hk3
      have hx := ext_trans hx hxd
      have hdk := hdk.ext hxd
      have hi := hi.ext hxd
      have b2 := b2.ext hxd
      have b3 := b3.ext hxd
      have b4 := b4.ext hxd
      clear hset hxd hd hk3
      obtain ⟨b3_0, b3_1, b3_2, b3_3⟩ := b3.c4
      have b3_z := b3.free
      have b3_l := b3.lt
      obtain ⟨b2_0, b2_1, b2_2, b2_3⟩ := b2.c4
      have b2_z := b2.free
      have b2_l := b2.lt
      go_wp2_with fail
      try clear b3_0 b3_1 b3_2 b3_3 b3_z b3_l b2_0 b2_1 b2_2 b2_3 b2_z b2_l
      clear q1
      have hzr := hx.size
      obtain ⟨wz, rfl⟩ : ∃ x, x = wr := ⟨_, rfl⟩
      go_loopw [11, 81] (fun vl i wq => ∃ b : Nat, b ≤ a ∧ i = .int .i64 b ∧ OwnRow eEnt wq wz.heap.size base vl (restTo s.index z b) ∧ Ext wz wq) (fun _ i _ => a - (intOf i).toNat)
      case atStart => exact ⟨0, by omega, rfl, OwnRow.nil _ _ _ _, Below.refl _ _⟩
      case round =>
       obtain ⟨b, hb, rfl, own, hxq⟩ := hrel
       have hzq := hxq.size
       by_cases hlb : b < a
       ·have i0 : (0 : Int) ≤ (b : Int) := by omega
        have i1 : (b : Int) < (a : Int) := by omega
        have hbl : b < s.index.length := HK.out ▸ hlb
        obtain ⟨g1, o1, u1, rfl, hg1, hu1, f1⟩ := hi.ent_x hlb
        have RH := Lib.hid (fun h => rest_hit (p := z) hbl h)
        have RM := Lib.hid (fun h => rest_miss (p := z) hbl h)
        generalize s.index.getD b ⟨rZero, 0⟩ = x at f1 hu1 RH RM
        obtain ⟨AX, nx, cx, rfl, _, _⟩ := hu1.form
        obtain ⟨x0, x1, x2, x3, x4⟩ := f1 _ hxq
        have hu1 := hu1.ext hxq
        clear f1 hg1
        go_upto_region 21 with (fail)
        generalize hwn : World.alloc wr _ = w8
        have he : Ext wr w8 := by rw [← hwn]; exact ext_alloc _ _
        have b17 : Box w8 wr.heap.size 54 (cE x (.slice AX nx cx)) := by rw [← hwn]; exact Box.new _ _ _ (by simp)
        clear hwn x0 x1 x2 x3 x4
        have hz8 := he.size
        have hxq := ext_trans hxq he
        have own := own.ext he
        have hu1 := hu1.ext he
        clear he
        by_cases k1 : x.pair = z
        ·have q : (x.pair != z) = false := by simpa using k1
         rw [← RH.out k1] at own
         clear k1 RH RM
         obtain ⟨b17_0, b17_1, b17_2, b17_3, b17_4⟩ := b17.c5
         have b17_z := b17.free
         have b17_l := b17.lt
         go_wp2_with fail
         refine ⟨⟨b + 1, by omega, rfl, own, hxq⟩, ?_⟩
         simp only [intOf]
         omega
        ·have q : (x.pair != z) = true := by simpa using k1
         have HL9 : Hid ((restTo s.index z b).length + 1 ≤ lim) := Lib.hid (by have := rest_len s.index z b; have := HK.out; rw [lim_def]; omega)
         have RM := Lib.hid (RM.out k1)
         clear k1 RH
         obtain ⟨b17_0, b17_1, b17_2, b17_3, b17_4⟩ := b17.c5
         have b17_z := b17.free
         have b17_l := b17.lt
         go_wp2_with (at_builtin; (refine wpl_ent rfl (.tmp 89) (.tmp 91) rfl rfl (own.ext (ext_alloc _ _)) rfl (Sl.new _ _ _ _ 5 1 rfl (by unfold maxLen; omega) (Nat.lt_succ_self _)) (y := x) ⟨_, rfl, hu1.ext (ext_alloc _ _)⟩ HL9.out (by rw [size_alloc]; omega) (by omega) ?_; intro v7 w9 own7 hg7 hb7))
         try clear b17_0 b17_1 b17_2 b17_3 b17_4 b17_z b17_l b17_0 b17_1 b17_2 b17_3 b17_4 b17_z b17_l
         rw [← RM.out] at own7
         have hxq : Ext wz w9 := (hxq.alloc hxq.size _).trans hb7
         go_wp2_with fail
         refine ⟨⟨b + 1, by omega, rfl, own7, hxq⟩, ?_⟩
         simp only [intOf]
         omega
       ·obtain rfl : b = a := by omega
        have hR : restTo s.index z b = iDrop s.index z := by rw [HK.out]; unfold restTo iDrop; rw [List.take_length]
        rw [hR] at own
        clear hR
        have rL := own.row (T := tS) (by decide) (Nat.le_refl _)
        clear own hi
        obtain ⟨AL, nL, cL, rfl, _, _, _⟩ := rL.form
        have hx := ext_trans hx hxq
        have hdk := hdk.ext hxq
        have b2 := b2.ext hxq
        have b4 := b4.ext hxq
        obtain ⟨b2_0, b2_1, b2_2, b2_3⟩ := b2.c4
        have b2_z := b2.free
        have b2_l := b2.lt
        go_wp2_with fail
        refine (rpPut_v (T := tS) (p := z) (r := rFree) tDS (by decide) (Nat.le_trans hbase hx.size) hdk HG.out.fine.disk.ok (by have := HG.out.fine.disk.late; omega) ⟨_, rfl, ByT.nil _ _⟩).mono ?_
        rintro e8 w8 ⟨v8, q8, rfl, _, d8, he⟩
        try clear b2_0 b2_1 b2_2 b2_3 b2_z b2_l
        have hx := ext_trans hx he
        have rL := rL.ext he
        have b2 := b2.ext he
        have b4 := b4.ext he
        clear he
        clear hdk
        obtain ⟨A8, n8, c8, E8, m8, e8, rfl, _, _, _, _, _, _⟩ := d8.form
        have k2 := b2.kd
        obtain ⟨b2_0, b2_1, b2_2, b2_3⟩ := b2.c4
        have b2_z := b2.free
        have b2_l := b2.lt
        go_upto_region 26 with (fail)
        try clear b2_0 b2_1 b2_2 b2_3 b2_z b2_l
        generalize hwn : World.setCell (World.setCell (World.setCell w8 _ _) _ _) _ _ = w9
        have b4 : Box w9 g4 33 #[.slice none 0 0, .slice none 0 0, .slice none 0 0, .int .i64 0] := by rw [← hwn]; (repeat (with_reducible (first | assumption | refine Box.alloc ?_ _ | refine Box.setOther ?_ (by simp <;> omega) _)))
        have d8 : DskV tS w9 base (.agg #[.slice A8 n8 c8, .slice E8 m8 e8]) (pPut s.disk z rFree).1 := d8.kept (by rw [← hwn]; (repeat (with_reducible (first | assumption | exact Kept.refl _ _ _ | (apply Kept.setK; rotate_left; (repeat (first | assumption | apply Kd.set | apply Kd.alloc | apply Kd.drew)); decide; omega) | refine Kept.allocK ?_ _ | refine Kept.drewK ?_))))
        have rL : Row eEnt tS w9 base (.slice AL nL cL) (iDrop s.index z) := rL.kept (by rw [← hwn]; (repeat (with_reducible (first | assumption | exact Kept.refl _ _ _ | (apply Kept.setK; rotate_left; (repeat (first | assumption | apply Kd.set | apply Kd.alloc | apply Kd.drew)); decide; omega) | refine Kept.allocK ?_ _ | refine Kept.drewK ?_))))
        have hx : Ext w w9 := by rw [← hwn]; (repeat (with_reducible (first | assumption | exact Below.refl _ _ | refine Below.setCell ?_ (by simp <;> omega) _ | refine Below.alloc ?_ (by simp <;> omega) _ | refine Below.drew ?_ | refine below_drewN ?_ _)))
        have b2 : Box w9 g2 33 #[.slice A8 n8 c8, .slice E8 m8 e8, .slice AL nL cL, .int .i64 s.next] := by rw [← hwn]; exact ((b2.set 0 _).set 1 _).set 2 _
        clear hwn k2
        have k4 := b4.kd
        obtain ⟨b2_0, b2_1, b2_2, b2_3⟩ := b2.c4
        have b2_z := b2.free
        have b2_l := b2.lt
        obtain ⟨b4_0, b4_1, b4_2, b4_3⟩ := b4.c4
        have b4_z := b4.free
        have b4_l := b4.lt
        go_wp2_with fail
        ((try simp only [Exit.inBlock, Exit.then]); refine bodyPost_ret (v := ?_) ?resultOf rfl ?_; case resultOf => (rw [results_ctt rfl]; go_simp; rfl))
        try clear b2_0 b2_1 b2_2 b2_3 b2_z b2_l b4_0 b4_1 b4_2 b4_3 b4_z b4_l
        rw [HB.out, HM6.out]
        exact ⟨_, rfl, StoV.mk (d8.kept (by (repeat (with_reducible (first | assumption | exact Kept.refl _ _ _ | (apply Kept.setK; rotate_left; (repeat (first | assumption | apply Kd.set | apply Kd.alloc | apply Kd.drew)); decide; omega) | refine Kept.allocK ?_ _ | refine Kept.drewK ?_))))) (rL.kept (by (repeat (with_reducible (first | assumption | exact Kept.refl _ _ _ | (apply Kept.setK; rotate_left; (repeat (first | assumption | apply Kd.set | apply Kd.alloc | apply Kd.drew)); decide; omega) | refine Kept.allocK ?_ _ | refine Kept.drewK ?_))))) rfl, by (repeat (with_reducible (first | assumption | exact Below.refl _ _ | refine Below.setCell ?_ (by simp <;> omega) _ | refine Below.alloc ?_ (by simp <;> omega) _ | refine Below.drew ?_ | refine below_drewN ?_ _)))⟩
     ·have HB := Lib.hid (begin_make HG.out HW.out HQ6.out hk3)
      rw [← HM6.out] at HB
      have q1 : (d.kind == 3) = false := by simpa using hk3
      have hU : usedTo s.index a = iUsed s.index := funext fun p => by rw [HK.out]; exact used_all s.index p
      rw [hU] at hset
      clear hU
      have hx := ext_trans hx hxd
      have hd := hd.ext hxd
      have hdk := hdk.ext hxd
      have hi := hi.ext hxd
      have b2 := b2.ext hxd
      have b3 := b3.ext hxd
      have b4 := b4.ext hxd
      clear hxd
      obtain ⟨b3_0, b3_1, b3_2, b3_3⟩ := b3.c4
      have b3_z := b3.free
      have b3_l := b3.lt
      go_wp2_with fail
      try clear b3_0 b3_1 b3_2 b3_3 b3_z b3_l
      clear q1
      go_loopw [18] (fun i wq => ∃ b : Nat, b ≤ a ∧ i = .int .i64 b ∧ Hid (∀ j : Nat, j < b → iUsed s.index j = true) ∧ wq = wr) (fun i _ => a + 1 - (intOf i).toNat)
      case atStart => exact ⟨0, by omega, rfl, fun j hj => (by omega), rfl⟩
      case round =>
       obtain ⟨b, hb, rfl, HU, rfl⟩ := hrel
       have look := hset.look (k := (b : Int)) (by unfold intOk; omega)
       cases hq : iUsed s.index (b : Int) with
       | true =>
        rw [hq] at look
        have HU2 : Hid (∀ j : Nat, j < b + 1 → iUsed s.index j = true) := Lib.hid (fun j hj => if hjb : j = b then (by rw [hjb]; exact hq) else HU.out j (by omega))
        have hba : b + 1 ≤ a := by rw [HK.out]; exact free_bound HU2.out
        clear hq HU
        go_wp2_with fail
        refine ⟨⟨b + 1, hba, rfl, HU2, trivial⟩, ?_⟩
        simp only [intOf]
        omega
       | false =>
        rw [hq] at look
        have HFR : Hid (iFree s.index 6 = (b : Int)) := Lib.hid (by
         have h1 := free_eq (p := 6) HU.out hq
         have h2 := HB.out.2.1
         split at h1 <;> omega)
        clear hq HU
        have HB := Lib.hid HB.out.1
        rw [HFR.out] at HB
        clear HFR
        go_upto_region 30 with (fail)
        clear look hset
        obtain ⟨b3_0, b3_1, b3_2, b3_3⟩ := b3.c4
        have b3_z := b3.free
        have b3_l := b3.lt
        go_wp2_with fail
        refine (rMade_d (x := m6) hd HW.out hk3).mono ?_
        rintro e8 w8 ⟨v8, rfl, r8, he⟩
        try clear b3_0 b3_1 b3_2 b3_3 b3_z b3_l
        have hx := ext_trans hx he
        have hdk := hdk.ext he
        have hi := hi.ext he
        have b2 := b2.ext he
        have b3 := b3.ext he
        have b4 := b4.ext he
        clear he
        clear hd
        obtain ⟨r, hr⟩ : ∃ r, mMade d m6 = r := ⟨_, rfl⟩
        rw [hr] at r8 HB
        clear hr
        obtain ⟨u8, rfl, hu8⟩ := r8
        obtain ⟨A8, n8, c8, rfl, _, _⟩ := hu8.form
        go_upto_region 31 with (fail)
        generalize hwn : World.alloc w8 _ = w9
        have he : Ext w8 w9 := by rw [← hwn]; exact ext_alloc _ _
        have b19 : Box w9 w8.heap.size 51 #[.int .i64 r.kind, .int .i64 r.key, .int .i64 r.ver, .slice A8 n8 c8] := by rw [← hwn]; exact Box.new _ _ _ (by simp)
        clear hwn
        have l19 := b4.lt
        have hx := ext_trans hx he
        have hdk := hdk.ext he
        have hi := hi.ext he
        have hu8 := hu8.ext he
        have b2 := b2.ext he
        have b4 := b4.ext he
        clear he b3
        obtain ⟨g19, hg19⟩ : ∃ g, g = w8.heap.size := ⟨_, rfl⟩
        rw [← hg19] at b19 l19 ⊢
        clear hg19
        obtain ⟨b2_0, b2_1, b2_2, b2_3⟩ := b2.c4
        have b2_z := b2.free
        have b2_l := b2.lt
        obtain ⟨b19_0, b19_1, b19_2, b19_3⟩ := b19.c4
        have b19_z := b19.free
        have b19_l := b19.lt
        go_wp2_with fail
        refine (rpPut_v (T := tS) (p := (b : Int)) (r := r) tDS (by decide) (Nat.le_trans hbase hx.size) hdk HG.out.fine.disk.ok (by have := HG.out.fine.disk.late; omega) ⟨_, rfl, hu8⟩).mono ?_
        rintro e10 w10 ⟨v10, q10, rfl, _, d10, he⟩
        try clear b2_0 b2_1 b2_2 b2_3 b2_z b2_l b19_0 b19_1 b19_2 b19_3 b19_z b19_l
        have hx := ext_trans hx he
        have hi := hi.ext he
        have hu8 := hu8.ext he
        have b2 := b2.ext he
        have b4 := b4.ext he
        have b19 := b19.ext he
        clear he
        clear hdk
        obtain ⟨A10, n10, c10, E10, m10, e10, rfl, _, _, _, _, _, _⟩ := d10.form
        have k2 := b2.kd
        obtain ⟨b2_0, b2_1, b2_2, b2_3⟩ := b2.c4
        have b2_z := b2.free
        have b2_l := b2.lt
        go_upto_region 32 with (fail)
        try clear b2_0 b2_1 b2_2 b2_3 b2_z b2_l
        generalize hwn : World.setCell (World.setCell w10 _ _) _ _ = w11
        have b4 : Box w11 g4 33 #[.slice none 0 0, .slice none 0 0, .slice none 0 0, .int .i64 0] := by rw [← hwn]; (repeat (with_reducible (first | assumption | refine Box.alloc ?_ _ | refine Box.setOther ?_ (by simp <;> omega) _)))
        have b19 : Box w11 g19 51 #[.int .i64 r.kind, .int .i64 r.key, .int .i64 r.ver, .slice A8 n8 c8] := by rw [← hwn]; (repeat (with_reducible (first | assumption | refine Box.alloc ?_ _ | refine Box.setOther ?_ (by simp <;> omega) _)))
        have d10 : DskV tS w11 base (.agg #[.slice A10 n10 c10, .slice E10 m10 e10]) (pPut s.disk (b : Int) r).1 := d10.kept (by rw [← hwn]; (repeat (with_reducible (first | assumption | exact Kept.refl _ _ _ | (apply Kept.setK; rotate_left; (repeat (first | assumption | apply Kd.set | apply Kd.alloc | apply Kd.drew)); decide; omega) | refine Kept.allocK ?_ _ | refine Kept.drewK ?_))))
        have hi : Row eEnt tS w11 base (.slice F a f) s.index := hi.kept (by rw [← hwn]; (repeat (with_reducible (first | assumption | exact Kept.refl _ _ _ | (apply Kept.setK; rotate_left; (repeat (first | assumption | apply Kd.set | apply Kd.alloc | apply Kd.drew)); decide; omega) | refine Kept.allocK ?_ _ | refine Kept.drewK ?_))))
        have hu8 : ByT w11 base (.slice A8 n8 c8) r.data := hu8.kept (T := tS) (by rw [← hwn]; (repeat (with_reducible (first | assumption | exact Kept.refl _ _ _ | (apply Kept.setK; rotate_left; (repeat (first | assumption | apply Kd.set | apply Kd.alloc | apply Kd.drew)); decide; omega) | refine Kept.allocK ?_ _ | refine Kept.drewK ?_))))
        have hx : Ext w w11 := by rw [← hwn]; (repeat (with_reducible (first | assumption | exact Below.refl _ _ | refine Below.setCell ?_ (by simp <;> omega) _ | refine Below.alloc ?_ (by simp <;> omega) _ | refine Below.drew ?_ | refine below_drewN ?_ _)))
        have b2 : Box w11 g2 33 #[.slice A10 n10 c10, .slice E10 m10 e10, .slice F a f, .int .i64 s.next] := by rw [← hwn]; exact (b2.set 0 _).set 1 _
        clear hwn k2
        obtain ⟨b2_0, b2_1, b2_2, b2_3⟩ := b2.c4
        have b2_z := b2.free
        have b2_l := b2.lt
        obtain ⟨b19_0, b19_1, b19_2, b19_3⟩ := b19.c4
        have b19_z := b19.free
        have b19_l := b19.lt
        go_wp2_with fail
        refine (refInsert_v (e := ⟨r, (b : Int)⟩) hi (by have := HK.out; omega) (Nat.le_trans hbase hx.size) ⟨_, rfl, hu8⟩).mono ?_
        rintro e12 w12 ⟨v12, rfl, o12, he⟩
        try clear b2_0 b2_1 b2_2 b2_3 b2_z b2_l b19_0 b19_1 b19_2 b19_3 b19_z b19_l
        have hx := ext_trans hx he
        have d10 := d10.ext he
        have b2 := b2.ext he
        have b4 := b4.ext he
        have b19 := b19.ext he
        clear he
        have rL := o12.row (T := tS) (by decide) (Nat.le_refl _)
        clear o12 hi
        obtain ⟨AL, nL, cL, rfl, _, _, _⟩ := rL.form
        have k2 := b2.kd
        obtain ⟨b2_0, b2_1, b2_2, b2_3⟩ := b2.c4
        have b2_z := b2.free
        have b2_l := b2.lt
        go_upto_region 33 with (fail)
        try clear b2_0 b2_1 b2_2 b2_3 b2_z b2_l
        generalize hwn : World.setCell w12 _ _ = w13
        have b4 : Box w13 g4 33 #[.slice none 0 0, .slice none 0 0, .slice none 0 0, .int .i64 0] := by rw [← hwn]; (repeat (with_reducible (first | assumption | refine Box.alloc ?_ _ | refine Box.setOther ?_ (by simp <;> omega) _)))
        have d10 : DskV tS w13 base (.agg #[.slice A10 n10 c10, .slice E10 m10 e10]) (pPut s.disk (b : Int) r).1 := d10.kept (by rw [← hwn]; (repeat (with_reducible (first | assumption | exact Kept.refl _ _ _ | (apply Kept.setK; rotate_left; (repeat (first | assumption | apply Kd.set | apply Kd.alloc | apply Kd.drew)); decide; omega) | refine Kept.allocK ?_ _ | refine Kept.drewK ?_))))
        have rL : Row eEnt tS w13 base (.slice AL nL cL) (iIns s.index ⟨r, (b : Int)⟩) := rL.kept (by rw [← hwn]; (repeat (with_reducible (first | assumption | exact Kept.refl _ _ _ | (apply Kept.setK; rotate_left; (repeat (first | assumption | apply Kd.set | apply Kd.alloc | apply Kd.drew)); decide; omega) | refine Kept.allocK ?_ _ | refine Kept.drewK ?_))))
        have hx : Ext w w13 := by rw [← hwn]; (repeat (with_reducible (first | assumption | exact Below.refl _ _ | refine Below.setCell ?_ (by simp <;> omega) _ | refine Below.alloc ?_ (by simp <;> omega) _ | refine Below.drew ?_ | refine below_drewN ?_ _)))
        have b2 : Box w13 g2 33 #[.slice A10 n10 c10, .slice E10 m10 e10, .slice AL nL cL, .int .i64 s.next] := by rw [← hwn]; exact b2.set 2 _
        clear hwn k2
        have k4 := b4.kd
        obtain ⟨b2_0, b2_1, b2_2, b2_3⟩ := b2.c4
        have b2_z := b2.free
        have b2_l := b2.lt
        obtain ⟨b4_0, b4_1, b4_2, b4_3⟩ := b4.c4
        have b4_z := b4.free
        have b4_l := b4.lt
        go_wp2_with fail
        ((try simp only [Exit.inBlock, Exit.then]); refine bodyPost_ret (v := ?_) ?resultOf rfl ?_; case resultOf => (rw [results_ctt rfl]; go_simp; rfl))
        try clear b2_0 b2_1 b2_2 b2_3 b2_z b2_l b4_0 b4_1 b4_2 b4_3 b4_z b4_l
        rw [HB.out]
        exact ⟨_, rfl, StoV.mk (d10.kept (by (repeat (with_reducible (first | assumption | exact Kept.refl _ _ _ | (apply Kept.setK; rotate_left; (repeat (first | assumption | apply Kd.set | apply Kd.alloc | apply Kd.drew)); decide; omega) | refine Kept.allocK ?_ _ | refine Kept.drewK ?_))))) (rL.kept (by (repeat (with_reducible (first | assumption | exact Kept.refl _ _ _ | (apply Kept.setK; rotate_left; (repeat (first | assumption | apply Kd.set | apply Kd.alloc | apply Kd.drew)); decide; omega) | refine Kept.allocK ?_ _ | refine Kept.drewK ?_))))) rfl, by (repeat (with_reducible (first | assumption | exact Below.refl _ _ | refine Below.setCell ?_ (by simp <;> omega) _ | refine Below.alloc ?_ (by simp <;> omega) _ | refine Below.drew ?_ | refine below_drewN ?_ _)))⟩
  ·have HB := Lib.hid (begin_no HW.out (s := s) (by rw [← HQ6.out]; exact hq))
   have HQ := Lib.hid HQ6.out.symm
   have q : (q6 != 0) = true := by simpa using hq
   have k4 := b4.kd
   clear hq
   obtain ⟨b2_0, b2_1, b2_2, b2_3⟩ := b2.c4
   have b2_z := b2.free
   have b2_l := b2.lt
   obtain ⟨b4_0, b4_1, b4_2, b4_3⟩ := b4.c4
   have b4_z := b4.free
   have b4_l := b4.lt
   go_wp2_with fail
   ((try simp only [Exit.inBlock, Exit.then]); refine bodyPost_ret (v := ?_) ?resultOf rfl ?_; case resultOf => (rw [results_ctt rfl]; go_simp; rfl))
   try clear b2_0 b2_1 b2_2 b2_3 b2_z b2_l b4_0 b4_1 b4_2 b4_3 b4_z b4_l
   rw [HB.out, HQ.out]
   exact ⟨_, rfl, StoV.mk (hdk.kept (by (repeat (with_reducible (first | assumption | exact Kept.refl _ _ _ | (apply Kept.setK; rotate_left; (repeat (first | assumption | apply Kd.set | apply Kd.alloc | apply Kd.drew)); decide; omega) | refine Kept.allocK ?_ _ | refine Kept.drewK ?_))))) (hi.kept (by (repeat (with_reducible (first | assumption | exact Kept.refl _ _ _ | (apply Kept.setK; rotate_left; (repeat (first | assumption | apply Kd.set | apply Kd.alloc | apply Kd.drew)); decide; omega) | refine Kept.allocK ?_ _ | refine Kept.drewK ?_))))) rfl, by (repeat (with_reducible (first | assumption | exact Below.refl _ _ | refine Below.setCell ?_ (by simp <;> omega) _ | refine Below.alloc ?_ (by simp <;> omega) _ | refine Below.drew ?_ | refine below_drewN ?_ _)))⟩
 ·have HB := Lib.hid (begin_wrong (s := s) hw)
  have q : (mWrong d != 0) = true := by simpa using hw
  have k4 := b4.kd
  clear hw
  obtain ⟨b2_0, b2_1, b2_2, b2_3⟩ := b2.c4
  have b2_z := b2.free
  have b2_l := b2.lt
  obtain ⟨b4_0, b4_1, b4_2, b4_3⟩ := b4.c4
  have b4_z := b4.free
  have b4_l := b4.lt
  go_wp2_with fail
  ((try simp only [Exit.inBlock, Exit.then]); refine bodyPost_ret (v := ?_) ?resultOf rfl ?_; case resultOf => (rw [results_ctt rfl]; go_simp; rfl))
  try clear b2_0 b2_1 b2_2 b2_3 b2_z b2_l b4_0 b4_1 b4_2 b4_3 b4_z b4_l
  rw [HB.out]
  exact ⟨_, rfl, StoV.mk (hdk.kept (by (repeat (with_reducible (first | assumption | exact Kept.refl _ _ _ | (apply Kept.setK; rotate_left; (repeat (first | assumption | apply Kd.set | apply Kd.alloc | apply Kd.drew)); decide; omega) | refine Kept.allocK ?_ _ | refine Kept.drewK ?_))))) (hi.kept (by (repeat (with_reducible (first | assumption | exact Kept.refl _ _ _ | (apply Kept.setK; rotate_left; (repeat (first | assumption | apply Kd.set | apply Kd.alloc | apply Kd.drew)); decide; omega) | refine Kept.allocK ?_ _ | refine Kept.drewK ?_))))) rfl, by (repeat (with_reducible (first | assumption | exact Below.refl _ _ | refine Below.setCell ?_ (by simp <;> omega) _ | refine Below.alloc ?_ (by simp <;> omega) _ | refine Below.drew ?_ | refine below_drewN ?_ _)))⟩
end Go.Proofs.YtmcgbdbhpnplmaaGreat
