/- The law TopBack: taken back, the older one is there. -/
import Derived.Test.YtdmnmfnmaccmoaaGreatDoorTpA
namespace Go.Proofs.YtdmnmfnmaccmoaaGreatDoor
open Go Go.RowKit
set_option maxRecDepth 100000 in
set_option maxHeartbeats 8000000 in
theorem topBack_law (W : World) (hV : VarT W) {v : Value} {ds : List (List UInt8)} (h : Row eBlk [] W W.heap.size v ds) :
  Calls Tryz.prog 4 #[v] W fun e w' => e = .returned (.bool true) ∧ Below W.heap.size W w' := by
 obtain ⟨A, n, c, rfl, hc, hcm, HN⟩ := h.form
 unfold maxLen at hcm
 have hx : Ext W W := Below.refl _ _
 go_enter Tryz.func4, Tryz.ntmps4
 go_wp2_with fail
 refine (aliveT_w hV).mono ?_
 rintro e1 w1 ⟨rfl, he⟩
 have hx := ext_trans hx he
 have h := h.ext he
 clear he
 by_cases h6 : 6 < n
 ·have q1 : decide ((6 : Int) < (n : Int)) = true := by simp; omega
  have q2 : decide (6 < n) = true := by simp; omega
  clear h6
  go_wp2_with fail
  go_ret
  exact ⟨rfl, hx⟩
 have q1 : decide ((6 : Int) < (n : Int)) = false := by simp; omega
 have q2 : decide (6 < n) = false := by simp; omega
 have hn6 : n ≤ 6 := by omega
 clear h6 hV
 go_wp2_with fail
 refine (stoNew_v _).mono ?_
 rintro e2 w2 ⟨v2, rfl, s2, he⟩
 have hx := ext_trans hx he
 have h := h.ext he
 clear he
 clear q1 q2
 obtain ⟨A2, n2, c2, E2, m2, e2, F2, k2, f2, rfl, _, _, _, _, _, _, _, _⟩ := s2.form
 have l3 := hx.size
 go_upto_region 6 with (fail)
 generalize hwn : World.alloc w2 _ = w3
 have he : Ext w2 w3 := by rw [← hwn]; exact ext_alloc _ _
 have b3 : Box w3 w2.heap.size 30 #[.slice A2 n2 c2, .slice E2 m2 e2, .slice F2 k2 f2, .int .i64 sNew.next] := by rw [← hwn]; exact Box.new _ _ _ (by simp)
 clear hwn
 have hx := ext_trans hx he
 have h := h.ext he
 have s2 := s2.ext he
 clear he
 obtain ⟨g3, hg3⟩ : ∃ g, g = w2.heap.size := ⟨_, rfl⟩
 rw [← hg3] at b3 l3
 rw [← hg3]
 clear hg3
 have s3 := s2
 clear s2
 go_upto_region 8 with (fail)
 go_loopw [4, 26] (fun v4 i wr => ∃ a : Nat, a ≤ n ∧ i = .int .i64 a ∧ Hid (∀ j, j < a → (ds.getD j []).length ≤ 8) ∧ (∃ A n c E m e F k f, Box wr g3 30 #[.slice A n c, .slice E m e, .slice F k f, .int .i64 (bTo (dsq ds) a).next] ∧ StoV tS wr 0 (.agg #[.slice A n c, .slice E m e, .slice F k f, .int .i64 (bTo (dsq ds) a).next]) (bTo (dsq ds) a)) ∧ OwnRow eInt wr (g3 + 1) 0 v4 (mkN a) ∧ Row eBlk [] wr W.heap.size (.slice A n c) ds ∧ Ext W wr) (fun _ i _ => n - (intOf i).toNat)
 case atStart => exact ⟨0, by omega, rfl, Lib.hid (fun j hj => by omega), ⟨_, _, _, _, _, _, _, _, _, b3, s3⟩, OwnRow.nil _ _ _ _, h, hx⟩
 case round =>
  clear hx b3 s3 h
  obtain ⟨a, ha, rfl, HL, ⟨A3, n3, c3, E3, m3, e3, F3, k3, f3, b3, s3⟩, on, h, hx⟩ := hrel
  have hz := hx.size
  have l3z := b3.lt
  by_cases hlt : a < n
  ·have i0 : (0 : Int) ≤ (a : Int) := by omega
   have i1 : (a : Int) < (n : Int) := by omega
   obtain ⟨g5, o5, u5, rfl, hg5, cu, hu⟩ := h.blk_at hlt
   obtain ⟨A5, n5, c5, rfl, _, HN5⟩ := hu.form
   by_cases hb8 : 8 < n5
   ·have q1 : decide ((8 : Int) < (n5 : Int)) = true := by simp; omega
    have q2 : decide (8 < n5) = true := by simp; omega
    clear hb8
    go_wp2_with fail
    go_ret
    exact ⟨rfl, hx⟩
   have q1 : decide ((8 : Int) < (n5 : Int)) = false := by simp; omega
   have q2 : decide (8 < n5) = false := by simp; omega
   have hbl : (ds.getD a []).length ≤ 8 := by rw [← HN5.out]; omega
   have HB := Lib.hid (back_step (ds := ds) (a := a) (by omega) hbl)
   have HG := Lib.hid (back_put (dsq_le ds) a (by omega)).1
   have HL2 : Hid (∀ j, j < a + 1 → (ds.getD j []).length ≤ 8) := Lib.hid fun j hj => by
    by_cases e : j < a
    ·exact HL.out j e
    ·have : j = a := by omega
     rw [this]; exact hbl
   clear hb8 hbl HN5
   go_upto_region 12 with (fail)
   clear cu q1 q2
   obtain ⟨b3_0, b3_1, b3_2, b3_3⟩ := b3.c4
   have b3_z := b3.free
   have b3_l := b3.lt
   go_wp2_with fail
   refine (playDo_v (x := ⟨1, 0, 0, dPut7 7 (ds.getD a [])⟩) s3 HG.out.good ⟨_, rfl, hu⟩).mono ?_
   rintro e5 w5 ⟨v5, rfl, s5, he⟩
   try clear b3_0 b3_1 b3_2 b3_3 b3_z b3_l
   have hx := ext_trans hx he
   have h := h.ext he
   have b3 := b3.ext he
   have on := on.ext he
   clear he
   rw [do_is, HB.out.2.1, HB.out.2.2]
   rw [do_is, HB.out.1] at s5
   clear s3 hu HG HB
   generalize bTo (dsq ds) a = y at b3
   generalize hz1 : bTo (dsq ds) (a + 1) = z at s5
   have HZ := Lib.hid hz1
   clear hz1
   obtain ⟨A7, n7, c7, E7, m7, e7, F7, k7, f7, rfl, _, _, _, _, _, _, _, _⟩ := s5.form
   go_upto_region 13 with (fail)
   generalize hwn : World.alloc w5 _ = w6
   have he : Ext w5 w6 := by rw [← hwn]; exact ext_alloc _ _
   have b7 : Box w6 w5.heap.size 30 #[.slice A7 n7 c7, .slice E7 m7 e7, .slice F7 k7 f7, .int .i64 z.next] := by rw [← hwn]; exact Box.new _ _ _ (by simp)
   clear hwn
   have l7 := b3.lt
   have hx := ext_trans hx he
   have h := h.ext he
   have b3 := b3.ext he
   have on := on.ext he
   have s5 := s5.ext he
   clear he
   obtain ⟨g7, hg7⟩ : ∃ g, g = w5.heap.size := ⟨_, rfl⟩
   rw [← hg7] at b7 l7
   rw [← hg7]
   clear hg7
   have kb := b3.kd
   obtain ⟨b3_0, b3_1, b3_2, b3_3⟩ := b3.c4
   have b3_z := b3.free
   have b3_l := b3.lt
   obtain ⟨b7_0, b7_1, b7_2, b7_3⟩ := b7.c4
   have b7_z := b7.free
   have b7_l := b7.lt
   go_upto_region 16 with (fail)
   try clear b3_0 b3_1 b3_2 b3_3 b3_z b3_l b7_0 b7_1 b7_2 b7_3 b7_z b7_l
   generalize hwn : World.setCell (World.setCell (World.setCell (World.setCell w6 _ _) _ _) _ _) _ _ = w7
   have s5 := s5.kept (w' := w7) (by rw [← hwn]; (repeat (with_reducible (first | assumption | exact Kept.refl _ _ _ | (apply Kept.setK; rotate_left; (repeat (first | assumption | apply Kd.set | apply Kd.alloc | apply Kd.drew)); decide; omega) | refine Kept.allocK ?_ _ | refine Kept.drewK ?_))))
   have on := on.kept (w' := w7) (T := [3]) (base' := 0) (by decide) (Nat.zero_le _) (by rw [← hwn]; (repeat (with_reducible (first | assumption | exact Kept.refl _ _ _ | (apply Kept.setK; rotate_left; (repeat (first | assumption | apply Kd.set | apply Kd.alloc | apply Kd.drew)); decide; omega) | refine Kept.allocK ?_ _ | refine Kept.drewK ?_))))
   have h := h.kept (w' := w7) (by rw [← hwn]; (repeat (with_reducible (first | assumption | exact Kept.refl _ _ _ | (apply Kept.setK; rotate_left; (repeat (first | assumption | apply Kd.set | apply Kd.alloc | apply Kd.drew)); decide; omega) | refine Kept.allocK ?_ _ | refine Kept.drewK ?_))))
   have hx : Ext W w7 := by rw [← hwn]; (repeat (with_reducible (first | assumption | exact Below.refl _ _ | refine Below.setCell ?_ (by simp <;> omega) _ | refine Below.alloc ?_ (by simp <;> omega) _ | refine Below.drew ?_ | refine below_drewN ?_ _)))
   have b3 : Box w7 g3 30 #[.slice A7 n7 c7, .slice E7 m7 e7, .slice F7 k7 f7, .int .i64 z.next] := by rw [← hwn]; exact (((b3.set 0 _).set 1 _).set 2 _).set 3 _
   clear hwn kb b7
   have l6 := b3.lt
   have HL9 : Hid ((mkN a).length + 1 ≤ lim) := Lib.hid (by rw [mkN_len, lim_def]; omega)
   go_wp2_with (at_builtin; (refine wpl_int rfl (.tmp 45) (.tmp 47) rfl rfl (on.ext (ext_alloc _ _)) rfl (Sl.new _ _ _ _ 1 1 rfl (by unfold maxLen; omega) (Nat.lt_succ_self _)) (y := (a : Int) + 1) rfl HL9.out (by rw [size_alloc]; omega) (by omega) ?_; intro v8 w8 on8 hg8 hb8; have kt := fun T b (hT : 3 ∉ 5 :: T) hb => (on.ext (ext_alloc _ _)).keptT (T := T) (base' := b) hg8 hT hb; have s8 := (s5.ext (ext_alloc _ _)).kept (kt _ _ (by decide) (by omega)); have b38 := (b3.alloc _).below hb8 (by omega); have h8 := (h.ext (ext_alloc _ _)).kept (kt [] _ (by decide) (by omega)); have hx8 := (hx.alloc hx.size _).trans (hb8.mono (by omega)); clear kt))
   rw [← mkN_succ] at on8
   refine ⟨⟨a + 1, by omega, rfl, HL2, ⟨_, _, _, _, _, _, _, _, _, by rw [HZ.out]; exact b38, by rw [HZ.out]; exact s8⟩, on8, h8, hx8⟩, ?_⟩
   simp only [intOf]
   omega
  ·obtain rfl : a = n := by omega
   obtain ⟨An, nn, cn, rfl, hnn, hnm, HNN⟩ := on.form
   unfold maxLen at hnm
   obtain rfl : nn = a := HNN.out.trans (mkN_len a)
   have rn := on.row (T := [3]) (base := 0) (base' := 0) (by decide) (Nat.zero_le _)
   have hb := back_put (dsq_le ds) nn hn6
   have HG := Lib.hid hb.1
   have HP := Lib.hid hb.2
   clear on hb HNN
   generalize bTo (dsq ds) nn = y at b3 s3 HG HP
   have hw : IntKind.wrap .i64 ((nn : Int) - 1) = (nn : Int) - 1 := by rw [IntKind.wrap_i64]; omega
   go_upto_region 19 with (fail)
   go_loopw [10] (fun t10 wr => ∃ (k : Nat) (z : Int) (y : Sto), k ≤ nn ∧ t10 = .int .i64 z ∧ Hid (z = (k : Int) - 1) ∧ Hid (tGood y) ∧ Hid ((sRecs y).Perm (mkR (dsq ds) k)) ∧ (∃ A n c E m e F k f, Box wr g3 30 #[.slice A n c, .slice E m e, .slice F k f, .int .i64 y.next] ∧ StoV tS wr 0 (.agg #[.slice A n c, .slice E m e, .slice F k f, .int .i64 y.next]) y) ∧ Row eInt [3] wr 0 (.slice An nn cn) (mkN nn) ∧ Row eBlk [] wr W.heap.size (.slice A nn c) ds ∧ Ext W wr) (fun t10 _ => (intOf t10 + 1).toNat)
   case atStart => exact ⟨nn, _, y, Nat.le_refl _, rfl, Lib.hid rfl, HG, HP, ⟨_, _, _, _, _, _, _, _, _, b3, s3⟩, rn, h, hx⟩
   case round =>
    clear hx b3 s3 h rn HG HP hw hz l3z
    clear y
    obtain ⟨k, z, y, hk, rfl, HZ, HG, HP, ⟨A3, n3, c3, E3, m3, e3, F3, k3, f3, b3, s3⟩, rn, h, hx⟩ := hrel
    have hz := hx.size
    by_cases hk0 : 0 < k
    ·obtain ⟨p, rfl⟩ : ∃ p, k = p + 1 := ⟨k - 1, by omega⟩
     obtain rfl : z = (p : Int) := by have := HZ.out; omega
     have q1 : decide ((0 : Int) ≤ (p : Int)) = true := by simp
     have i0 : (0 : Int) ≤ (p : Int) := by omega
     have i1 : (p : Int) < (nn : Int) := by omega
     have htb := take_back HG.out (by omega) HP.out
     rw [dsq_at (HL.out p (by omega))] at htb
     obtain ⟨t1, t2, t3, t4⟩ := htb
     have HGT := Lib.hid t1
     have HE := Lib.hid t2
     have HG2 := Lib.hid t3
     have HP2 := Lib.hid t4
     clear t1 t2 t3 t4 hk0
     obtain ⟨b3_0, b3_1, b3_2, b3_3⟩ := b3.c4
     have b3_z := b3.free
     have b3_l := b3.lt
     go_wp2_with fail
     refine (stoGet_v (key := 7) s3 HG.out.good.fine HG.out.good.right).mono ?_
     rintro e5 w5 ⟨v5, q5, rfl, HQ, hy, he⟩
     try clear b3_0 b3_1 b3_2 b3_3 b3_z b3_l
     have hx := ext_trans hx he
     have h := h.ext he
     have b3 := b3.ext he
     have s3 := s3.ext he
     have rn := rn.ext he
     clear he
     rw [HGT.out] at HQ hy
     obtain rfl : q5 = 0 := HQ.out
     obtain ⟨A5, n5, c5, rfl, hy, HN5⟩ := hy.form
     have hs5 := fun k => run_str (l := ds.getD p []) (Sl.drewN hy k)
     obtain ⟨g6, o6, u6, rfl, hg6, cu, hu⟩ := h.blk_at (i := p) (by omega)
     obtain ⟨A6, n6, c6, rfl, hby6, HN6⟩ := hu.form
     have hs6 := fun k => run_str (l := ds.getD p []) (Sl.drewN hby6 k)
     obtain ⟨ab, hab⟩ : ∃ b : ByteArray, b = ⟨(ds.getD p []).toArray⟩ := ⟨_, rfl⟩
     rw [← hab] at hs5 hs6
     have qs : (ab.toList == ab.toList) = true := by simp
     clear hab HN5 HN6 HQ HGT hy hu hby6
     obtain ⟨gn, on, rfl, hgn, cn6⟩ := rn.int_at (i := p) (by omega)
     rw [mkN_at (by omega)] at cn6
     go_wp2_with fail
     go_quiet (fail)
     go_upto_region 24 with (fail)
     have he : Ext w5 (w5.drewN nq) := below_drewN (Below.refl _ _) _
     have cn6 := (he.cell (p := ⟨gn, on + p, none⟩) hgn).trans cn6
     have hgn := Nat.lt_of_lt_of_le hgn he.size
     have hx := ext_trans hx he
     have h := h.ext he
     have b3 := b3.ext he
     have s3 := s3.ext he
     have rn := rn.ext he
     clear he hs5 hs6 cu hg6 qs
     generalize w5.drewN nq = w6 at hx h b3 s3 rn cn6 hgn ⊢
     go_cut [13, 14, 15] from 75 to 85 (fun t13 _ t15 wr => ∃ g13 A8 n8 c8 E8 m8 e8 F8 k8 f8, t13 = .pointer (some ⟨g13, 0, none⟩) ∧ t15 = .int .i64 0 ∧ g3 < g13 ∧ Box wr g13 30 #[.slice A8 n8 c8, .slice E8 m8 e8, .slice F8 k8 f8, .int .i64 (sDo y ⟨3, 7, (p : Int) + 1, []⟩).1.next] ∧ StoV tS wr 0 (.agg #[.slice A8 n8 c8, .slice E8 m8 e8, .slice F8 k8 f8, .int .i64 (sDo y ⟨3, 7, (p : Int) + 1, []⟩).1.next]) (sDo y ⟨3, 7, (p : Int) + 1, []⟩).1 ∧ Box wr g3 30 #[.slice A3 n3 c3, .slice E3 m3 e3, .slice F3 k3 f3, .int .i64 y.next] ∧ Row eInt [3] wr 0 (.slice (some ⟨gn, on, none⟩) nn cn) (mkN nn) ∧ Row eBlk [] wr W.heap.size (.slice (some ⟨g6, o6, none⟩) nn c) ds ∧ Ext W wr)
     case first =>
      refine wp_region_below w6.heap.size 16 [0, 1, 2, 3, 4, 5, 6, 8, 9, 10, 11, 14, 15] false rfl (by kernel_rfl) (by kernel_rfl) ?_
      have hx2 : Ext w6 w6.drew := (Below.refl _ _).drew
      have hz6 : w6.heap.size ≤ w6.drew.heap.size := hx2.size
      have hg3 : g3 < w6.heap.size := b3.lt
      have cn6 := (hx2.cell (p := ⟨gn, on + p, none⟩) hgn).trans cn6
      have hxy := hx
      have hxy := ext_trans hxy hx2
      have b3 := b3.ext hx2
      have h := h.ext hx2
      have s3 := s3.ext hx2
      have rn := rn.ext hx2
      clear hx2 hx
      obtain ⟨B, hB⟩ : ∃ B, B = w6.heap.size := ⟨_, rfl⟩
      rw [← hB] at hz6 hg3 hgn ⊢
      clear hB
      generalize w6.drew = D at hxy hz6 b3 h s3 rn cn6 ⊢
      apply mixF 0 (by kernel_rfl) (by rfl) (by rfl)
      ·(intro w' hx; obtain ⟨x0, x1, x2, x3⟩ := (b3.below hx hg3).c4; go_simp <;> with_reducible rfl)
      simp only [pA, pB, pC, pD]
      apply mixF 1 (by kernel_rfl) (by rfl) (by rfl)
      ·(intro w' hx; go_simp <;> with_reducible rfl)
      simp only [pA, pB, pC, pD]
      apply mixF 2 (by kernel_rfl) (by rfl) (by rfl)
      ·(intro w' hx; go_simp <;> with_reducible rfl)
      simp only [pA, pB, pC, pD]
      apply mixF 3 (by kernel_rfl) (by rfl) (by rfl)
      ·(intro w' hx; go_simp <;> with_reducible rfl)
      simp only [pA, pB, pC, pD]
      apply mixF 4 (by kernel_rfl) (by rfl) (by rfl)
      ·(intro w' hx; have q := (hx.cell (p := ⟨gn, on + p, none⟩) hgn).trans cn6; go_simp <;> with_reducible rfl)
      simp only [pA, pB, pC, pD]
      apply mixF 5 (by kernel_rfl) (by rfl) (by rfl)
      ·(intro w' hx; go_simp <;> with_reducible rfl)
      simp only [pA, pB, pC, pD]
      apply mixF 6 (by kernel_rfl) (by rfl) (by rfl)
      ·(intro w' hx; go_simp <;> with_reducible rfl)
      simp only [pA, pB, pC, pD]
      refine mixS2 7 12 (by kernel_rfl) (by kernel_rfl) (by rfl) (by rfl) (by rfl) (by rfl) (fun K hK => ?_) (fun K hK => ?_)
      ·skip
       go_wp2_with (go_at_call 9; refine (playDo_v (x := ⟨1, 0, 0, ⟨3, 7, (p : Int) + 1, []⟩⟩) s3 HG.out.good ⟨_, rfl, ByT.nil _ 0⟩).mono ?_; rintro e w8 ⟨v8, rfl, s8, he⟩; obtain ⟨A8, n8, c8, E8, m8, e8, F8, k8, f8, rfl, _, _, _, _, _, _, _, _⟩ := s8.form)
       refine hK.out _ _ (he.mono (by omega)) ?_
       clear hK K
       try simp only [pA, pB, pC, pD]
       rw [do_is, HE.out]
       rw [do_is] at s8
       generalize (sDo y ⟨3, 7, (p : Int) + 1, []⟩).2.1 = nn8
       have hz8 := he.size
       have hxy := ext_trans hxy he
       have b3 := b3.ext he
       have h := h.ext he
       have rn := rn.ext he
       have hx9 := he
       clear he s3
       apply mixF 8 (by kernel_rfl) (by rfl) (by rfl)
       ·(intro w' hx; go_simp <;> with_reducible rfl)
       simp only [pA, pB, pC, pD]
       apply mixF 9 (by kernel_rfl) (by rfl) (by rfl)
       ·(intro w' hx; go_simp <;> with_reducible rfl)
       simp only [pA, pB, pC, pD]
       apply mixF 10 (by kernel_rfl) (by rfl) (by rfl)
       ·(intro w' hx; go_simp <;> with_reducible rfl)
       simp only [pA, pB, pC, pD]
       apply mixF 11 (by kernel_rfl) (by rfl) (by rfl)
       ·(intro w' hx; go_simp <;> with_reducible rfl)
       simp only [pA, pB, pC, pD]
       refine mixS 12 (by kernel_rfl) (by kernel_rfl) (by rfl) (by rfl) (fun K hK => ?_)
       go_wp2
       generalize hwn : World.alloc w8 _ = w7
       have he : Ext w8 w7 := by rw [← hwn]; exact ext_alloc _ _
       have b13 : Box w7 w8.heap.size 30 #[.slice none 0 0, .slice none 0 0, .slice none 0 0, .int .i64 0] := by rw [← hwn]; exact Box.new _ _ _ rfl
       clear hwn
       refine hK.out _ _ (he.mono (by omega)) ?_
       clear hK K
       try simp only [pA, pB, pC, pD]
       have hz7 := he.size
       have l13 := b3.lt
       have hxy := ext_trans hxy he
       have b3 := b3.ext he
       have h := h.ext he
       have rn := rn.ext he
       have s8 := s8.ext he
       clear he
       obtain ⟨g13, hg13⟩ : ∃ g, g = w8.heap.size := ⟨_, rfl⟩
       rw [← hg13] at b13 l13
       rw [← hg13]
       have lB : B ≤ g13 := by omega
       clear hg13
       refine mixS 13 (by kernel_rfl) (by kernel_rfl) (by rfl) (by rfl) (fun K hK => ?_)
       have kb := b13.kd
       obtain ⟨b13_0, b13_1, b13_2, b13_3⟩ := b13.c4
       have b13_z := b13.free
       have b13_l := b13.lt
       go_wp2
       try clear b13_0 b13_1 b13_2 b13_3 b13_z b13_l
       generalize hwn : World.setCell (World.setCell (World.setCell (World.setCell w7 _ _) _ _) _ _) _ _ = w10
       have s8 := s8.kept (w' := w10) (by rw [← hwn]; (repeat (with_reducible (first | assumption | exact Kept.refl _ _ _ | (apply Kept.setK; rotate_left; (repeat (first | assumption | apply Kd.set | apply Kd.alloc | apply Kd.drew)); decide; omega) | refine Kept.allocK ?_ _ | refine Kept.drewK ?_))))
       have h := h.kept (w' := w10) (by rw [← hwn]; (repeat (with_reducible (first | assumption | exact Kept.refl _ _ _ | (apply Kept.setK; rotate_left; (repeat (first | assumption | apply Kd.set | apply Kd.alloc | apply Kd.drew)); decide; omega) | refine Kept.allocK ?_ _ | refine Kept.drewK ?_))))
       have rn := rn.kept (w' := w10) (by rw [← hwn]; (repeat (with_reducible (first | assumption | exact Kept.refl _ _ _ | (apply Kept.setK; rotate_left; (repeat (first | assumption | apply Kd.set | apply Kd.alloc | apply Kd.drew)); decide; omega) | refine Kept.allocK ?_ _ | refine Kept.drewK ?_))))
       have hxy : Ext W w10 := by rw [← hwn]; (repeat (with_reducible (first | assumption | exact Below.refl _ _ | refine Below.setCell ?_ (by simp <;> omega) _ | refine Below.alloc ?_ (by simp <;> omega) _ | refine Below.drew ?_ | refine below_drewN ?_ _)))
       have hXX : Below B w7 w10 := by rw [← hwn]; exact ((((Below.refl _ _).setCell lB _).setCell lB _).setCell lB _).setCell lB _
       have b3 : Box w10 g3 30 #[.slice A3 n3 c3, .slice E3 m3 e3, .slice F3 k3 f3, .int .i64 y.next] := by rw [← hwn]; (repeat (with_reducible (first | assumption | refine Box.alloc ?_ _ | refine Box.setOther ?_ (by simp <;> omega) _)))
       have b13 : Box w10 g13 30 #[.slice A8 n8 c8, .slice E8 m8 e8, .slice F8 k8 f8, .int .i64 (sDo y ⟨3, 7, (p : Int) + 1, []⟩).1.next] := by rw [← hwn]; exact (((b13.set 0 _).set 1 _).set 2 _).set 3 _
       clear hwn kb
       refine hK.out _ _ hXX ?_
       clear hK K hXX
       try simp only [pA, pB, pC, pD]
       apply mixF 14 (by kernel_rfl) (by rfl) (by rfl)
       ·(intro w' hx; go_simp <;> with_reducible rfl)
       simp only [pA, pB, pC, pD]
       apply mixF 15 (by kernel_rfl) (by rfl) (by rfl)
       ·(intro w' hx; go_simp <;> with_reducible rfl)
       simp only [pA, pB, pC, pD]
       refine mixEnd (by kernel_rfl) ?_
       go_wp2_with fail
       go_meet
       exact ⟨_, _, _, _, _, _, _, _, _, _, rfl, rfl, by omega, b13, s8, b3, rn, h, hxy⟩
      ·skip
       go_wp2
       generalize hwn : World.alloc D _ = w7
       have he : Ext D w7 := by rw [← hwn]; exact ext_alloc _ _
       have b13 : Box w7 D.heap.size 30 #[.slice none 0 0, .slice none 0 0, .slice none 0 0, .int .i64 0] := by rw [← hwn]; exact Box.new _ _ _ rfl
       clear hwn
       refine hK.out _ _ (he.mono (by omega)) ?_
       clear hK K
       try simp only [pA, pB, pC, pD]
       have hz7 := he.size
       have l13 := b3.lt
       have hxy := ext_trans hxy he
       have b3 := b3.ext he
       have h := h.ext he
       have rn := rn.ext he
       have s3 := s3.ext he
       clear he
       obtain ⟨g13, hg13⟩ : ∃ g, g = D.heap.size := ⟨_, rfl⟩
       rw [← hg13] at b13 l13
       rw [← hg13]
       have lB : B ≤ g13 := by omega
       clear hg13
       refine mixS 7 (by kernel_rfl) (by kernel_rfl) (by rfl) (by rfl) (fun K hK => ?_)
       go_wp2_with (go_at_call 9; refine (playDo_v (x := ⟨1, 0, 0, ⟨3, 7, (p : Int) + 1, []⟩⟩) s3 HG.out.good ⟨_, rfl, ByT.nil _ 0⟩).mono ?_; rintro e w8 ⟨v8, rfl, s8, he⟩; obtain ⟨A8, n8, c8, E8, m8, e8, F8, k8, f8, rfl, _, _, _, _, _, _, _, _⟩ := s8.form)
       refine hK.out _ _ (he.mono (by omega)) ?_
       clear hK K
       try simp only [pA, pB, pC, pD]
       rw [do_is, HE.out]
       rw [do_is] at s8
       generalize (sDo y ⟨3, 7, (p : Int) + 1, []⟩).2.1 = nn8
       have hz8 := he.size
       have hxy := ext_trans hxy he
       have b3 := b3.ext he
       have h := h.ext he
       have rn := rn.ext he
       have hx9 := he
       clear he s3
       apply mixF 8 (by kernel_rfl) (by rfl) (by rfl)
       ·(intro w' hx; go_simp <;> with_reducible rfl)
       simp only [pA, pB, pC, pD]
       apply mixF 9 (by kernel_rfl) (by rfl) (by rfl)
       ·(intro w' hx; go_simp <;> with_reducible rfl)
       simp only [pA, pB, pC, pD]
       apply mixF 10 (by kernel_rfl) (by rfl) (by rfl)
       ·(intro w' hx; go_simp <;> with_reducible rfl)
       simp only [pA, pB, pC, pD]
       apply mixF 11 (by kernel_rfl) (by rfl) (by rfl)
       ·(intro w' hx; go_simp <;> with_reducible rfl)
       simp only [pA, pB, pC, pD]
       have b13 := b13.ext hx9
       refine mixS 13 (by kernel_rfl) (by kernel_rfl) (by rfl) (by rfl) (fun K hK => ?_)
       have kb := b13.kd
       obtain ⟨b13_0, b13_1, b13_2, b13_3⟩ := b13.c4
       have b13_z := b13.free
       have b13_l := b13.lt
       go_wp2
       try clear b13_0 b13_1 b13_2 b13_3 b13_z b13_l
       generalize hwn : World.setCell (World.setCell (World.setCell (World.setCell w8 _ _) _ _) _ _) _ _ = w10
       have s8 := s8.kept (w' := w10) (by rw [← hwn]; (repeat (with_reducible (first | assumption | exact Kept.refl _ _ _ | (apply Kept.setK; rotate_left; (repeat (first | assumption | apply Kd.set | apply Kd.alloc | apply Kd.drew)); decide; omega) | refine Kept.allocK ?_ _ | refine Kept.drewK ?_))))
       have h := h.kept (w' := w10) (by rw [← hwn]; (repeat (with_reducible (first | assumption | exact Kept.refl _ _ _ | (apply Kept.setK; rotate_left; (repeat (first | assumption | apply Kd.set | apply Kd.alloc | apply Kd.drew)); decide; omega) | refine Kept.allocK ?_ _ | refine Kept.drewK ?_))))
       have rn := rn.kept (w' := w10) (by rw [← hwn]; (repeat (with_reducible (first | assumption | exact Kept.refl _ _ _ | (apply Kept.setK; rotate_left; (repeat (first | assumption | apply Kd.set | apply Kd.alloc | apply Kd.drew)); decide; omega) | refine Kept.allocK ?_ _ | refine Kept.drewK ?_))))
       have hxy : Ext W w10 := by rw [← hwn]; (repeat (with_reducible (first | assumption | exact Below.refl _ _ | refine Below.setCell ?_ (by simp <;> omega) _ | refine Below.alloc ?_ (by simp <;> omega) _ | refine Below.drew ?_ | refine below_drewN ?_ _)))
       have hXX : Below B w8 w10 := by rw [← hwn]; exact ((((Below.refl _ _).setCell lB _).setCell lB _).setCell lB _).setCell lB _
       have b3 : Box w10 g3 30 #[.slice A3 n3 c3, .slice E3 m3 e3, .slice F3 k3 f3, .int .i64 y.next] := by rw [← hwn]; (repeat (with_reducible (first | assumption | refine Box.alloc ?_ _ | refine Box.setOther ?_ (by simp <;> omega) _)))
       have b13 : Box w10 g13 30 #[.slice A8 n8 c8, .slice E8 m8 e8, .slice F8 k8 f8, .int .i64 (sDo y ⟨3, 7, (p : Int) + 1, []⟩).1.next] := by rw [← hwn]; exact (((b13.set 0 _).set 1 _).set 2 _).set 3 _
       clear hwn kb
       refine hK.out _ _ hXX ?_
       clear hK K hXX
       try simp only [pA, pB, pC, pD]
       apply mixF 14 (by kernel_rfl) (by rfl) (by rfl)
       ·(intro w' hx; go_simp <;> with_reducible rfl)
       simp only [pA, pB, pC, pD]
       apply mixF 15 (by kernel_rfl) (by rfl) (by rfl)
       ·(intro w' hx; go_simp <;> with_reducible rfl)
       simp only [pA, pB, pC, pD]
       refine mixEnd (by kernel_rfl) ?_
       go_wp2_with fail
       go_meet
       exact ⟨_, _, _, _, _, _, _, _, _, _, rfl, rfl, by omega, b13, s8, b3, rn, h, hxy⟩
     case rest =>
      obtain ⟨g13, A8, n8, c8, E8, m8, e8, F8, k8, f8, rfl, rfl, l13, b13, s8, b3, rn, h, hx⟩ := hcut
      have kb := b3.kd
      generalize (sDo y ⟨3, 7, (p : Int) + 1, []⟩).1 = z at b13 s8 HG2 HP2
      have hw1 : IntKind.wrap .i64 ((p : Int) - 1) = (p : Int) - 1 := by rw [IntKind.wrap_i64]; omega
      clear s3 cn6 hgn i0 i1 q1
      obtain ⟨b3_0, b3_1, b3_2, b3_3⟩ := b3.c4
      have b3_z := b3.free
      have b3_l := b3.lt
      obtain ⟨b13_0, b13_1, b13_2, b13_3⟩ := b13.c4
      have b13_z := b13.free
      have b13_l := b13.lt
      go_wp2_with fail
      try clear b3_0 b3_1 b3_2 b3_3 b3_z b3_l b13_0 b13_1 b13_2 b13_3 b13_z b13_l
      generalize hwn : World.setCell (World.setCell (World.setCell (World.setCell _ _ _) _ _) _ _) _ _ = w10
      have s8 := s8.kept (w' := w10) (by rw [← hwn]; (repeat (with_reducible (first | assumption | exact Kept.refl _ _ _ | (apply Kept.setK; rotate_left; (repeat (first | assumption | apply Kd.set | apply Kd.alloc | apply Kd.drew)); decide; omega) | refine Kept.allocK ?_ _ | refine Kept.drewK ?_))))
      have h := h.kept (w' := w10) (by rw [← hwn]; (repeat (with_reducible (first | assumption | exact Kept.refl _ _ _ | (apply Kept.setK; rotate_left; (repeat (first | assumption | apply Kd.set | apply Kd.alloc | apply Kd.drew)); decide; omega) | refine Kept.allocK ?_ _ | refine Kept.drewK ?_))))
      have rn := rn.kept (w' := w10) (by rw [← hwn]; (repeat (with_reducible (first | assumption | exact Kept.refl _ _ _ | (apply Kept.setK; rotate_left; (repeat (first | assumption | apply Kd.set | apply Kd.alloc | apply Kd.drew)); decide; omega) | refine Kept.allocK ?_ _ | refine Kept.drewK ?_))))
      have hx : Ext W w10 := by rw [← hwn]; (repeat (with_reducible (first | assumption | exact Below.refl _ _ | refine Below.setCell ?_ (by simp <;> omega) _ | refine Below.alloc ?_ (by simp <;> omega) _ | refine Below.drew ?_ | refine below_drewN ?_ _)))
      have b3 : Box w10 g3 30 #[.slice A8 n8 c8, .slice E8 m8 e8, .slice F8 k8 f8, .int .i64 z.next] := by rw [← hwn]; exact (((b3.set 0 _).set 1 _).set 2 _).set 3 _
      clear hwn kb
      refine ⟨⟨p, _, z, by omega, rfl, Lib.hid rfl, HG2, HP2, ⟨_, _, _, _, _, _, _, _, _, b3, s8⟩, rn, h, hx⟩, ?_⟩
      simp only [intOf]
      omega
    ·obtain rfl : k = 0 := by omega
     obtain rfl : z = -1 := by have := HZ.out; omega
     obtain ⟨t1, t2⟩ := back_none HP.out
     have HGT := Lib.hid t1
     have HK0 := Lib.hid t2
     clear t1 t2
     obtain ⟨b3_0, b3_1, b3_2, b3_3⟩ := b3.c4
     have b3_z := b3.free
     have b3_l := b3.lt
     go_wp2_with fail
     refine (stoGet_v (key := 7) s3 HG.out.good.fine HG.out.good.right).mono ?_
     rintro e5 w5 ⟨v5, q5, rfl, HQ, hy, he⟩
     try clear b3_0 b3_1 b3_2 b3_3 b3_z b3_l
     have hx := ext_trans hx he
     have b3 := b3.ext he
     have s3 := s3.ext he
     clear he
     rw [HGT.out] at HQ
     obtain rfl : q5 = 6 := HQ.out
     obtain ⟨A9, n9, c9, E9, m9, e9, F9, k9, f9, ev, _, _, _, _, HK, _, _, _⟩ := s3.form
     obtain ⟨A5, n5, c5, rfl, hy, HN5⟩ := hy.form
     obtain rfl : k3 = k9 := by
      injection ev with ev
      simp only [Array.mk.injEq, List.cons.injEq, Value.slice.injEq, and_true] at ev
      exact ev.2.2.2.1
     obtain rfl : k3 = 0 := HK.out.trans HK0.out
     clear HK ev hy HN5 HQ HGT
     obtain ⟨b3_0, b3_1, b3_2, b3_3⟩ := b3.c4
     have b3_z := b3.free
     have b3_l := b3.lt
     go_wp2_with fail
     go_ret
     exact ⟨rfl, hx⟩
end Go.Proofs.YtdmnmfnmaccmoaaGreatDoor
