/- The statement StorePages: the walk of the law. -/
import Derived.Test.YtmcgbdbhpnplmaaGreatAlive8
import Derived.Test.YtmcgbdbhpnplmaaGreatSt4
import Derived.Test.YtmcgbdbhpnplmaaGreatSc8
import Derived.Test.YtmcgbdbhpnplmaaGreatIx7
namespace Go.Proofs.YtmcgbdbhpnplmaaGreat
open Go Go.RowKit
theorem once_all {s : Sto} (g : sGood s) : sList s 1 1000 = kAll s := by
 rw [sList_eq g.right, List.filter_eq_self.2, List.take_of_length_le]
 ·have h1 := kAll_length g.right
  have h2 := index_six g
  have h3 : (1000 : Int).toNat = 1000 := rfl
  omega
 ·intro k hk
  exact decide_eq_true ((kRange_mem k).1 (List.mem_filter.1 hk).1).1
theorem page_bd {s : Sto} (g : iRight s.index) {st mo x : Int} (h : x ∈ sList s st mo) : 1 ≤ x ∧ x ≤ 255 := by
 rw [sList_eq g] at h
 exact (kRange_mem x).1 (List.mem_filter.1 (List.mem_filter.1 (List.mem_of_mem_take h)).1).1
theorem page_len {s : Sto} (g : iRight s.index) {st mo : Int} (h : 1 ≤ mo) : ((sList s st mo).length : Int) ≤ mo ∧ (sList s st mo).length ≤ 255 := by
 have h1 := kAll_length g
 rw [sList_eq g, List.length_take]
 have h2 : ((kAll s).filter fun k => decide (st ≤ k)).length ≤ (kAll s).length := List.length_filter_le _ _
 have h3 : (kAll s).length ≤ 255 := by
  unfold kAll
  have := List.length_filter_le (sOk s) kRange
  rwa [kRange_len] at this
 omega
theorem cell_block {w w' : World} {b o : Nat} (h : w'.heap[b]? = w.heap[b]?) : w'.cell? ⟨b, o, none⟩ = w.cell? ⟨b, o, none⟩ := by simp only [World.cell?, h]
theorem own_ge {E : El Int} {w : World} {rb base n c b o : Nat} {xs : List Int} (h : OwnRow E w rb base (.slice (some ⟨b, o, none⟩) n c) xs) : rb ≤ b := by
 rcases Nat.lt_or_ge b rb with hb | hb
 ·exact absurd rfl (own_rb h hb)
 ·exact hb
set_option maxRecDepth 100000 in
set_option maxHeartbeats 4000000 in
theorem storePages_law (w : World) {v : Value} {l : List Stp} {most : Int} (hl : Row eStp [] w w.heap.size v l) :
  Calls Tryz.prog 5 #[v, .int .i64 most] w fun e w' => e = .returned (.bool true) ∧ Ext w w' := by
 obtain ⟨A, n, c, rfl, _, _, _⟩ := hl.form
 have hx : Ext w w := Below.refl _ _
 go_enter Tryz.func5, Tryz.ntmps5
 go_wp2_with fail
 refine (alive8_w _).mono ?_
 rintro e0 w1 ⟨rfl, he⟩
 have hx := ext_trans hx he
 have hl := hl.ext he
 clear he
 by_cases h1 : most < 1
 ·have q : decide (most < 1) = true := by simpa using h1
  clear h1
  go_wp2_with fail
  go_ret
  exact ⟨rfl, hx⟩
 have q1 : decide (most < 1) = false := by simpa using h1
 by_cases h2 : 100 < most
 ·have q2 : decide (100 < most) = true := by simpa using h2
  clear h1 h2
  go_wp2_with fail
  go_ret
  exact ⟨rfl, hx⟩
 have q2 : decide (100 < most) = false := by simpa using h2
 have HMO := Lib.hid (show 1 ≤ most by omega)
 clear h1 h2
 go_wp2_with fail
 refine (refPlay_v hl).mono ?_
 rintro e1 w2 ⟨v1, es, ns, rfl, s4, _, _, he⟩
 have hx := ext_trans hx he
 clear he
 clear hl q1 q2
 have HG := Lib.hid (yPlay_good (l.take 100))
 generalize yPlay (l.take 100) = s at s4 HG
 obtain ⟨A4, n4, c4, E4, m4, e4, F4, k4, f4, rfl, _, _, _, _, _, _, _, _⟩ := s4.form
 go_upto_region 6 with (fail)
 generalize hwn : World.alloc w2 _ = w5
 have he : Ext w2 w5 := by rw [← hwn]; exact ext_alloc _ _
 have b5 : Box w5 w2.heap.size 33 #[.slice A4 n4 c4, .slice E4 m4 e4, .slice F4 k4 f4, .int .i64 s.next] := by rw [← hwn]; exact Box.new _ _ _ (by simp)
 clear hwn
 have hx := ext_trans hx he
 have s4 := s4.ext he
 clear he
 obtain ⟨g5, hg5⟩ : ∃ g, g = w2.heap.size := ⟨_, rfl⟩
 rw [← hg5] at b5 ⊢
 clear hg5
 have HLEN := Lib.hid (Nat.le_trans (kAll_length HG.out.right) (index_six HG.out))
 go_upto_region 9 with (fail)
 go_loopw [8, 9, 30] (fun va vf i wr => ∃ (a j : Nat) (z : Int) (all : List Int), a ≤ 9 ∧ i = .int .i64 a ∧ vf = .int .i64 z ∧ Hid (a ≤ j ∧ j ≤ (kAll s).length ∧ 1 ≤ z ∧ z ≤ 256) ∧ Hid (Paged s all z j) ∧ OwnRow eInt wr w5.heap.size 0 va all ∧ Ext w5 wr) (fun _ _ i _ => 9 - (intOf i).toNat)
 case atStart => exact ⟨0, 0, 1, [], by omega, rfl, rfl, Lib.hid ⟨by omega, by omega, by omega, by omega⟩, Lib.hid (paged_start s), OwnRow.nil _ _ _ _, Below.refl _ _⟩
 case round =>
  obtain ⟨a, j, z, all, ha, rfl, rfl, HB, HP, own, hxd⟩ := hrel
  obtain ⟨wz, rfl⟩ : ∃ x, x = wr := ⟨_, rfl⟩
  have i9 : (a : Int) < 9 := by have := HB.out; have := HLEN.out; omega
  have s4w := s4.ext hxd
  have b5w := b5.ext hxd
  have hz := hxd.size
  have HOB := Lib.hid (fun g (hg : wz.heap.size ≤ g) => own_new own hg)
  have HN := Lib.hid (paged_next HG.out.right HP.out HMO.out)
  have HPL := Lib.hid (page_len HG.out.right (st := z) HMO.out)
  have HPB := Lib.hid (fun x (h : x ∈ sList s z most) => page_bd HG.out.right h)
  have HAL : Hid (all.length ≤ 6) := Lib.hid (by rw [HP.out.all_, List.length_take]; have := HLEN.out; omega)
  obtain ⟨b5w_0, b5w_1, b5w_2, b5w_3⟩ := b5w.c4
  have b5w_z := b5w.free
  have b5w_l := b5w.lt
  go_wp2_with fail
  refine (stoList_v (st := z) (mo := most) s4w HG.out.fine HG.out.right).mono ?_
  rintro e6 w6 ⟨v6, rfl, o6, he⟩
  try clear b5w_0 b5w_1 b5w_2 b5w_3 b5w_z b5w_l
  have hxd := ext_trans hxd he
  have own := own.ext he
  have s4w := s4w.ext he
  have b5w := b5w.ext he
  clear he
  generalize sList s z most = ps at o6 HN HPL HPB
  obtain ⟨B6, n6, c6, rfl, _, hm6, HM6⟩ := o6.form
  unfold maxLen at hm6
  by_cases hp : n6 = 0
  ·obtain rfl := hp
   have hall : all = kAll s := HN.out.2.1 (List.eq_nil_of_length_eq_zero HM6.out.symm)
   rw [hall] at own
   clear hall HOB HN HPL HPB HAL o6 HP HB HM6
   have own := own.row (T := [3]) (base' := 0) (by decide) (Nat.le_refl _)
   obtain ⟨b5w_0, b5w_1, b5w_2, b5w_3⟩ := b5w.c4
   have b5w_z := b5w.free
   have b5w_l := b5w.lt
   go_wp2_with fail
   refine (stoList_v (st := 1) (mo := 1000) s4w HG.out.fine HG.out.right).mono ?_
   rintro e7 w7 ⟨v7, rfl, o7, he⟩
   try clear b5w_0 b5w_1 b5w_2 b5w_3 b5w_z b5w_l
   have hxd := ext_trans hxd he
   have own := own.ext he
   have s4w := s4w.ext he
   have b5w := b5w.ext he
   clear he
   rw [once_all HG.out] at o7
   have r7 := o7.row (T := [3]) (base' := 0) (by decide) (Nat.le_refl _)
   clear o7
   obtain ⟨A7, n7, c7, rfl, _, hm7, HM7⟩ := r7.form
   obtain ⟨A8, n8, c8, rfl, _, _, HM8⟩ := own.form
   unfold maxLen at hm7
   obtain rfl : n8 = n7 := HM8.out.trans HM7.out.symm
   go_upto_region 21 with (fail)
   go_loopw [63] (fun i wq => ∃ b : Nat, b ≤ n8 ∧ i = .int .i64 b ∧ Ext w7 wq) (fun i _ => n8 - (intOf i).toNat)
   case atStart => exact ⟨0, by omega, rfl, Below.refl _ _⟩
   case round =>
    obtain ⟨b, hb, rfl, hxq⟩ := hrel
    by_cases hlb : b < n8
    ·have i0 : (0 : Int) ≤ (b : Int) := by omega
     have i1 : (b : Int) < (n8 : Int) := by omega
     obtain ⟨g1, o1, rfl, hg1, c1⟩ := (r7.ext hxq).int_at hlb
     obtain ⟨g2, o2, rfl, hg2, c2⟩ := (own.ext hxq).int_at hlb
     have HOK : Hid ((sGet s ((kAll s).getD b 0)).2 = 0) := Lib.hid (by
      have h : (kAll s).getD b 0 ∈ kAll s := by
       rw [List.getD_eq_getElem?_getD, List.getElem?_eq_getElem (by rw [← HM7.out]; exact hlb)]
       exact List.getElem_mem _
      exact of_decide_eq_true (kAll_ok h))
     generalize (kAll s).getD b 0 = y at c1 c2 HOK
     have b5w := b5w.ext hxq
     have s4w := s4w.ext hxq
     have b5_0 := b5w.c4
     obtain ⟨y0, y1, y2, y3⟩ := b5_0
     have b5z := b5w.free
     have b5l := b5w.lt
     go_wp2_with fail
     refine (stoGet_v (key := y) s4w HG.out.fine HG.out.right).mono ?_
     rintro e9 w9 ⟨v9, q9, rfl, HQ, _, he⟩
     have c2 := (he.cell (p := ⟨g2, o2 + b, none⟩) hg2).trans c2
     have hg2 := Nat.lt_of_lt_of_le hg2 he.size
     have hxq9 := ext_trans hxq he
     clear y0 y1 y2 y3 b5z b5l he c1 hxq
     have HQ := Lib.hid (HQ.out.trans HOK.out)
     obtain rfl := HQ.out
     go_wp2_with fail
     refine ⟨⟨b + 1, by omega, rfl, hxq9⟩, ?_⟩
     simp only [intOf]
     omega
    ·obtain rfl : b = n8 := by omega
     go_wp2_with fail
     go_ret
     exact ⟨rfl, ext_trans hx (ext_trans hxd hxq)⟩
  ·have q : ((n6 : Int) == 0) = false := by rw [beq_eq_false_iff_ne]; omega
   have qq : (n6 == 0) = false := by rw [beq_eq_false_iff_ne]; exact hp
   have q3 : decide (most < (n6 : Int)) = false := by have := HPL.out; have := HM6.out; simp; omega
   obtain ⟨t, ht⟩ : ∃ t, n6 = t + 1 := ⟨n6 - 1, by omega⟩
   have hwr : IntKind.wrap .i64 ((n6 : Int) - 1) = (t : Int) := by rw [IntKind.wrap_i64]; omega
   have j0 : (0 : Int) ≤ (t : Int) := by omega
   have j1 : (t : Int) < (n6 : Int) := by omega
   have r6 := o6.row (T := [3]) (base' := 0) (by decide) (Nat.le_refl _)
   obtain ⟨g1, o1, rfl, hg1, c1⟩ := r6.int_at (i := t) (by omega)
   have hge := own_ge o6
   have hlast : ps.getLast? = some (ps.getD t 0) := by
    have := HM6.out
    rw [List.getLast?_eq_getElem?, List.getD_eq_getElem?_getD, show ps.length - 1 = t by omega, List.getElem?_eq_getElem (by omega)]
    rfl
   have HX := Lib.hid (HPB.out _ (List.mem_of_getLast? hlast))
   have HNX := Lib.hid (HN.out.2.2 _ hlast)
   generalize ps.getD t 0 = x at c1 HX HNX
   have hwr2 : IntKind.wrap .i64 (x + 1) = x + 1 := by have := HX.out; rw [IntKind.wrap_i64]; omega
   have HLIM : Hid (all.length + ps.length ≤ lim) := Lib.hid (by have := HAL.out; have := HPL.out; rw [lim_def]; omega)
   have hne := HOB.out g1 hge
   have hz6 := hxd.size
   clear hlast ht hp HN HPL HPB HAL HOB o6 hge
   go_upto_region 14 with (fail)
   go_upto_region 15 with (at_builtin; (refine wpal_int rfl (.tmp 43) (.tmp 44) rfl rfl own rfl r6 HLIM.out (by omega) (by omega) ?_; intro v7 w7 own7 hg7 hb7))
   have c1 := (cell_block (o := o1 + t) (hg7.block g1 hg1 hne)).trans c1
   have hg1 := Nat.lt_of_lt_of_le hg1 hg7.size
   have hxd : Ext w5 w7 := hxd.trans hb7
   clear own r6 hg7 hb7 hne b5w s4w
   obtain ⟨j', hj1, hj2, hpg⟩ := HNX.out
   have HB2 : Hid (a + 1 ≤ j' ∧ j' ≤ (kAll s).length ∧ 1 ≤ x + 1 ∧ x + 1 ≤ 256) := Lib.hid (by have := HB.out; have := HX.out; exact ⟨by omega, hj2, by omega, by omega⟩)
   have HP2 := Lib.hid hpg
   clear hpg hj1 hj2
   go_wp2_with fail
   refine ⟨⟨a + 1, j', x + 1, _, by omega, rfl, rfl, HB2, HP2, own7, hxd⟩, ?_⟩
   simp only [intOf]
   omega
end Go.Proofs.YtmcgbdbhpnplmaaGreat
