/- The statement IndexScan: the walk of the law. -/
import Derived.Test.YtpidjkadpnjahaaA5
import Derived.Test.YtpidjkadpnjahaaA4
namespace Go.Proofs.Ytpidjkadpnjahaa
open Go Go.RowKit
def isAt (p : Int) (r : Rec) (e : Ent) : Bool := decide (e.pair = p) && rSame e.rcd r
theorem any_step {l : List Ent} {a : Nat} {f : Ent → Bool} (ha : a < l.length) : (l.take (a + 1)).any f = ((l.take a).any f || f (l.getD a ⟨rZero, 0⟩)) := by
 rw [← Cs_getD ha, List.any_append]
 simp
theorem scan_told {d : Dsk} {p : Nat} (hp : p < d.blocks.length / 2) (hk : (pLook d p).2.kind ≠ 1) : (iScan d).any (isAt p (pLook d p).2) = true := by
 rw [List.any_eq_true]
 exact ⟨⟨(pLook d p).2, p⟩, (iTo_mem d _ _).2 ⟨p, hp, hk, rfl⟩, by simp [isAt, (rSame_iff _ _).2 rfl]⟩
set_option maxRecDepth 100000 in
set_option maxHeartbeats 4000000 in
theorem indexScan_law (w : World) {v : Value} {d : Dsk} (h : DskV tD w w.heap.size v d) :
  Calls Try.prog 16 #[v] w fun e w' => e = .returned (.bool true) ∧ Ext w w' := by
 obtain ⟨A, n, c, E, m, e, rfl, _, _, _, _, _, _⟩ := h.form
 go_enter Try.func16, Try.ntmps16
 go_upto_region 1 with (fail)
 generalize hwn : World.alloc w _ = W
 have hx : Ext w W := by rw [← hwn]; exact ext_alloc _ _
 have b1 : Box W w.heap.size 42 #[.slice A n c, .slice E m e] := by rw [← hwn]; exact Box.new _ _ _ rfl
 clear hwn
 have h := h.ext hx
 go_wp2_with fail
 refine (alive5_w _).mono ?_
 rintro e0 w0 ⟨rfl, he⟩
 have hx := ext_trans hx he
 have h := h.ext he
 have b1 := b1.ext he
 clear he
 obtain ⟨b1_0, b1_1⟩ := b1.c2
 have b1_z := b1.free
 have b1_l := b1.lt
 go_wp2_with fail
 refine (rightDisk_v h).mono ?_
 rintro e1 w1 ⟨rfl, he⟩
 try clear b1_0 b1_1 b1_z b1_l
 have hx := ext_trans hx he
 have h := h.ext he
 have b1 := b1.ext he
 clear he
 cases hrd : dRight d with
 | false =>
  go_wp2_with fail
  go_ret
  exact ⟨rfl, hx⟩
 | true =>
  have HF := Lib.hid (dRight_fine hrd)
  have H12 := Lib.hid (dRight_even hrd).1
  clear hrd
  obtain ⟨b1_0, b1_1⟩ := b1.c2
  have b1_z := b1.free
  have b1_l := b1.lt
  go_wp2_with fail
  refine (ixScan_v h HF.out.ok).mono ?_
  rintro e2 w2 ⟨v2, rfl, own2, he⟩
  try clear b1_0 b1_1 b1_z b1_l
  have hx := ext_trans hx he
  have h := h.ext he
  have b1 := b1.ext he
  clear he
  have r2 := own2.row (T := [74]) (base := 0) (by decide) (Nat.le_refl _)
  clear own2
  obtain ⟨A2, n2, c2, rfl, hc2, hm2, HN2⟩ := r2.form
  unfold maxLen at hm2
  go_wp2_with fail
  refine (rightIndex_v r2).mono ?_
  rintro e3 w3 ⟨b3, rfl, HR, he⟩
  have hx := ext_trans hx he
  have h := h.ext he
  have b1 := b1.ext he
  have r2 := r2.ext he
  clear he
  obtain rfl : b3 = true := HR.out.2 (iScan_right d (by rw [H12.out]; omega))
  clear HR
  have HL : Hid (∀ p : Nat, p < 6 → (pLook d p).2.kind ≠ 1 → (iScan d).any (isAt p (pLook d p).2) = true) := Lib.hid (fun p hp hk => scan_told (by rw [H12.out]; omega) hk)
  have HT : Hid (n2 = (sTo d 6).length) := Lib.hid (by
   rw [HN2.out]
   have := (iTo_perm d (d.blocks.length / 2)).length_eq
   rw [H12.out] at this
   show (iTo d (d.blocks.length / 2)).length = _
   rw [H12.out]
   exact this)
  generalize iScan d = l at r2 HN2 HL
  go_wp2_with fail
  go_loopw [4, 21] (fun vn i wr => ∃ a : Nat, a ≤ 6 ∧ i = .int .i64 a ∧ ∃ k : Nat, vn = .int .i64 k ∧ Hid (k = (sTo d a).length) ∧ k ≤ a ∧ Ext w3 wr) (fun _ i _ => 6 - (intOf i).toNat)
  case atStart => exact ⟨0, by omega, rfl, 0, rfl, rfl, by omega, Below.refl _ _⟩
  case round =>
   obtain ⟨a, ha, rfl, k, rfl, HK, hka, hd⟩ := hrel
   obtain ⟨wo, rfl⟩ : ∃ wo : World, wo = wr := ⟨_, rfl⟩
   by_cases hlt : a < 6
   ·have e1 : (a : Int) < 6 := by omega
    have hd0 := hd
    have b1x := b1.ext hd
    obtain ⟨b1x_0, b1x_1⟩ := b1x.c2
    have b1x_z := b1x.free
    have b1x_l := b1x.lt
    go_wp2_with fail
    refine (refLook_v (p := (a : Int)) (h.ext hd) HF.out.ok).mono ?_
    rintro e4 w4 ⟨rv, rfl, hr, he⟩
    have hst := show sTo d (a + 1) = if (pLook d a).2.kind ≠ 1 then sTo d a ++ [⟨(pLook d a).2, a⟩] else sTo d a from rfl
    have HLA := Lib.hid (HL.out a hlt)
    obtain ⟨how, hhow⟩ : ∃ x, (pLook d (a : Int)).1 = x := ⟨_, rfl⟩
    obtain ⟨r, hr'⟩ : ∃ x, (pLook d (a : Int)).2 = x := ⟨_, rfl⟩
    rw [hhow]
    rw [hr'] at hr hst HLA
    clear hhow hr'
    obtain ⟨u4, rfl, hu4⟩ := hr
    obtain ⟨A4, n4, c4, rfl, _, _⟩ := hu4.form
    try clear b1x_0 b1x_1 b1x_z b1x_l
    have hd := ext_trans hd he
    clear he b1x
    go_upto_region 13 with (fail)
    generalize hwn : World.alloc w4 _ = w5
    have he : Ext w4 w5 := by rw [← hwn]; exact ext_alloc _ _
    have b7 : Box w5 w4.heap.size 30 #[.int .i64 r.kind, .int .i64 r.key, .int .i64 r.ver, .slice A4 n4 c4] := by rw [← hwn]; exact Box.new _ _ _ (by simp)
    clear hwn
    have hd : Ext w3 w5 := ext_trans hd he
    have hu4 := hu4.ext he
    clear he
    obtain ⟨g7, hg7⟩ : ∃ g, g = w4.heap.size := ⟨_, rfl⟩
    rw [← hg7] at b7 ⊢
    clear hg7
    obtain ⟨b7_0, b7_1, b7_2, b7_3⟩ := b7.c4
    have b7_z := b7.free
    have b7_l := b7.lt
    by_cases hk1 : r.kind = 1
    ·have q : (r.kind == 1) = true := by simpa using hk1
     rw [if_neg (by simpa using hk1)] at hst
     have HS := Lib.hid hst
     clear hst hk1
     go_wp2_with fail
     refine ⟨⟨a + 1, by omega, rfl, k, rfl, by rw [Hid, HS.out]; exact HK.out, by omega, hd⟩, ?_⟩
     simp only [intOf]
     omega
    ·have q : (r.kind == 1) = false := by simpa using hk1
     rw [if_pos hk1] at hst
     have HS := Lib.hid hst
     have HLA := Lib.hid (HLA.out hk1)
     clear hst hk1
     go_wp2_with fail
     try clear b7_0 b7_1 b7_2 b7_3 b7_z b7_l
     clear q
     go_loopw [8, 37] (fun vb i wr => ∃ j : Nat, j ≤ n2 ∧ i = .int .i64 j ∧ ∃ b, vb = .bool b ∧ Hid (b = (l.take j).any (isAt a r)) ∧ Ext w5 wr) (fun _ i _ => n2 - (intOf i).toNat)
     case atStart => exact ⟨0, by omega, rfl, false, rfl, by simp [Hid], Below.refl _ _⟩
     case round =>
      obtain ⟨j, hj, rfl, b, rfl, HB, hd5⟩ := hrel
      have b7 := b7.ext hd5
      have hu4 := hu4.ext hd5
      have hd3 : Ext w3 wr := ext_trans hd hd5
      by_cases hlj : j < n2
      ·have i0 : (0 : Int) ≤ (j : Int) := by omega
       have i1 : (j : Int) < (n2 : Int) := by omega
       obtain ⟨g1, o1, u1, rfl, hg1, hu1, f1⟩ := r2.ent_x hlj
       have HST := Lib.hid (any_step (f := isAt a r) (HN2.out ▸ hlj : j < l.length))
       generalize l.getD j ⟨rZero, 0⟩ = x at f1 hu1 HST
       obtain ⟨A1, n1, c1, rfl, _, _⟩ := hu1.form
       obtain ⟨x0, x1, x2, x3, x4⟩ := f1 _ hd3
       have hu1 := hu1.ext hd3
       clear f1
       go_upto_region 19 with (fail)
       generalize hwn : World.alloc wr _ = w6
       have he : Ext wr w6 := by rw [← hwn]; exact ext_alloc _ _
       have b10 : Box w6 wr.heap.size 74 #[.int .i64 x.rcd.kind, .int .i64 x.rcd.key, .int .i64 x.rcd.ver, .slice A1 n1 c1, .int .i64 x.pair] := by rw [← hwn]; exact Box.new _ _ _ (by simp)
       clear hwn x0 x1 x2 x3 x4
       have hd5 := ext_trans hd5 he
       have b7 := b7.ext he
       have hu4 := hu4.ext he
       have hu1 := hu1.ext he
       clear he
       cases b with
       | true =>
        have HB2 : Hid (true = (l.take (j + 1)).any (isAt a r)) := Lib.hid (by rw [HST.out, ← HB.out]; rfl)
        go_wp2_with fail
        refine ⟨⟨j + 1, by omega, rfl, true, rfl, HB2, hd5⟩, ?_⟩
        simp only [intOf]
        omega
       | false =>
        by_cases hp : x.pair = (a : Int)
        ·have q : (x.pair == (a : Int)) = true := by simpa using hp
         have HB2 : Hid (rSame x.rcd r = (l.take (j + 1)).any (isAt a r)) := Lib.hid (by rw [HST.out, ← HB.out]; unfold isAt; rw [decide_eq_true hp]; rfl)
         clear hp
         obtain ⟨b10_0, b10_1, b10_2, b10_3, b10_4⟩ := b10.c5
         have b10_z := b10.free
         have b10_l := b10.lt
         obtain ⟨b7_0, b7_1, b7_2, b7_3⟩ := b7.c4
         have b7_z := b7.free
         have b7_l := b7.lt
         go_wp2_with fail
         refine (refSame_v (r := x.rcd) (s := r) ⟨_, rfl, hu1⟩ ⟨_, rfl, hu4⟩).mono ?_
         rintro e7 w7 ⟨rfl, he⟩
         try clear b10_0 b10_1 b10_2 b10_3 b10_4 b10_z b10_l b7_0 b7_1 b7_2 b7_3 b7_z b7_l
         clear q
         generalize rSame x.rcd r = qq at HB2
         go_wp2_with fail
         refine ⟨⟨j + 1, by omega, rfl, qq, rfl, HB2, ext_trans hd5 he⟩, ?_⟩
         simp only [intOf]
         omega
        ·have q : (x.pair == (a : Int)) = false := by simpa using hp
         have HB2 : Hid (false = (l.take (j + 1)).any (isAt a r)) := Lib.hid (by rw [HST.out, ← HB.out]; unfold isAt; rw [decide_eq_false hp]; rfl)
         clear hp
         obtain ⟨b10_0, b10_1, b10_2, b10_3, b10_4⟩ := b10.c5
         have b10_z := b10.free
         have b10_l := b10.lt
         go_wp2_with fail
         refine ⟨⟨j + 1, by omega, rfl, false, rfl, HB2, hd5⟩, ?_⟩
         simp only [intOf]
         omega
      ·have hjn : j = n2 := by omega
       have hb : b = true := by
        rw [HB.out, List.take_of_length_le (by rw [hjn, HN2.out]; exact Nat.le_refl _)]
        exact HLA.out
       subst hb
       go_wp2_with fail
       refine ⟨⟨a + 1, by omega, rfl, k + 1, by simp, ?_, by omega, hd3⟩, ?_⟩
       ·show _ = _
        rw [HS.out, List.length_append, ← HK.out]
        rfl
       ·simp only [intOf]
        omega
   ·obtain rfl : a = 6 := by omega
    obtain rfl : k = n2 := HK.out.trans HT.out.symm
    have q : ((k : Int) == (k : Int)) = true := by simp
    go_wp2_with fail
    go_ret
    exact ⟨rfl, ext_trans hx hd⟩
end Go.Proofs.Ytpidjkadpnjahaa
