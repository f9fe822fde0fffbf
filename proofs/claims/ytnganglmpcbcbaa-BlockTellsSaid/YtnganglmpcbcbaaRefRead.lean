/- Walks: a block's record read, the document's. -/
import Derived.Test.YtnganglmpcbcbaaRead
namespace Go.Proofs.Ytnganglmpcbcbaa
open Go Go.RowKit

theorem bad_w (q : Int) (w : World) :
    Calls Try.prog 112 #[.int .i64 q] w fun e w' => e = .returned (.tuple #[.agg #[.int .i64 0, .int .i64 0, .int .i64 0, .slice none 0 0], .int .i64 q]) ∧ Ext w w' := by
  go_enter Try.func112, Try.ntmps112
  go_wp2
  ((try simp only [Exit.inBlock, Exit.then]); refine bodyPost_ret (v := ?_) ?resultOf rfl ?_; case resultOf => (rw [results_cell_tmp rfl]; go_simp; rfl))
  refine ⟨rfl, ?_⟩
  (repeat (with_reducible (first | assumption | exact Below.refl _ _ | refine Below.setCell ?_ (by simp <;> omega) _ | refine Below.alloc ?_ (by simp <;> omega) _ | refine Below.drew ?_ | refine below_drewN ?_ _)))

set_option maxRecDepth 100000 in
set_option maxHeartbeats 20000000 in
theorem refRead_w {A : Option Addr} {n c B : Nat} {l : List UInt8} {k : Int} (w : World) (h : By w B A n c l) (hB : B ≤ w.heap.size) (hn : n ≤ blim) :
    Calls Try.prog 43 #[.slice A n c, .int .i64 k] w fun e w' => ∃ v q, e = .returned (.tuple #[v, .int .i64 q]) ∧ q = (rRead l k).2 ∧ OwnRec w w' v (rRead l k).1 ∧ Ext w w' := by
  have hl := h.len
  have hc := Sl.cap h
  have hm := Sl.max h
  unfold maxLen at hm
  by_cases h16 : n = 16
  · subst h16
    cases hs : sSealed l with
    | false =>
      have Hr := Lib.hid (show rRead l k = (rZero, 7) by unfold rRead; rw [if_neg (by omega), if_pos hs])
      go_enter Try.func43, Try.ntmps43
      go_wp2_with fail
      refine (refSealed_w _ _ _ _ l _ (Sl.below h ((ext_alloc _ _).mono hB)) (by simp; omega) hn).mono ?_
      rintro e V ⟨rfl, heV⟩
      have he : Ext w V := ext_trans (ext_alloc _ _) heV
      have bR : Box V w.heap.size 32 _ := (Box.new w _ _ rfl).ext heV
      rw [hs]
      go_wp2_with fail
      refine (bad_w _ _).mono ?_
      rintro e wb ⟨rfl, heb⟩
      have heb' : Ext w wb := ext_trans (by (repeat (with_reducible (first | assumption | exact Below.refl _ _ | refine Below.setCell ?_ (by simp <;> omega) _ | refine Below.alloc ?_ (by simp <;> omega) _ | refine Below.drew ?_ | refine below_drewN ?_ _)))) heb
      have bB : Box wb w.heap.size 32 #[.int .i64 0, .int .i64 0, .int .i64 0, .slice none 0 0] := by
        refine Box.ext ?_ heb
        first | exact bR | exact Box.new _ _ _ rfl
      have t0 := bB.cell 0 rfl
      have t1 := bB.cell 1 rfl
      have t2 := bB.cell 2 rfl
      have t3 := bB.cell 3 rfl
      have tz := bB.free
      go_wp2
      ((try simp only [Exit.inBlock, Exit.then]); refine bodyPost_ret (v := ?_) ?resultOf rfl ?_; case resultOf => (rw [results_cell_tmp rfl]; go_simp; rfl))
      rw [Hr.out]
      refine ⟨_, _, rfl, rfl, own_zero _ _, ?_⟩
      (repeat (with_reducible (first | assumption | exact Below.refl _ _ | refine Below.setCell ?_ (by simp <;> omega) _ | refine Below.alloc ?_ (by simp <;> omega) _ | refine Below.drew ?_ | refine below_drewN ?_ _)))
    | true =>
      have Hs := Lib.hid hs
      go_enter Try.func43, Try.ntmps43
      go_wp2_with fail
      refine (refSealed_w _ _ _ _ l _ (Sl.below h ((ext_alloc _ _).mono hB)) (by simp; omega) hn).mono ?_
      rintro e V ⟨rfl, heV⟩
      have he : Ext w V := ext_trans (ext_alloc _ _) heV
      have bR : Box V w.heap.size 32 _ := (Box.new w _ _ rfl).ext heV
      have hzV := heV.size
      rw [size_alloc] at hzV
      rw [hs]
      have hb : By V B A 16 c l := Sl.below h (he.mono hB)
      obtain ⟨b, o, x0, rfl, hbB, c0, x00, x01, X0⟩ := hb.byte (k := 0) (by omega)
      obtain ⟨_, _, x1, e', _, c1, x10, x11, X1⟩ := hb.byte (k := 1) (by omega)
      cases e'
      obtain ⟨_, _, x2, e', _, c2, x20, x21, X2⟩ := hb.byte (k := 2) (by omega)
      cases e'
      obtain ⟨_, _, x3, e', _, c3, x30, x31, X3⟩ := hb.byte (k := 3) (by omega)
      cases e'
      obtain ⟨_, _, x4, e', _, c4, x40, x41, X4⟩ := hb.byte (k := 4) (by omega)
      cases e'
      obtain ⟨_, _, x5, e', _, c5, x50, x51, X5⟩ := hb.byte (k := 5) (by omega)
      cases e'
      obtain ⟨u, rfl⟩ := Int.eq_ofNat_of_zero_le x50
      have p0 : IntKind.i64.wrap x0 = x0 := IntWalk.i64_in _ (by omega)
      have p1 : IntKind.i64.wrap x1 = x1 := IntWalk.i64_in _ (by omega)
      have p2 : IntKind.i64.wrap x2 = x2 := IntWalk.i64_in _ (by omega)
      have p5 : IntKind.i64.wrap (u : Int) = (u : Int) := IntWalk.i64_in _ (by omega)
      have Hl := Lib.hid hl
      rw [Nat.add_zero] at c0
      clear heV hl hs
      by_cases hk : x1 = k
      · have q1 : (x1 != k) = false := by simpa using hk
        by_cases h8 : u ≤ 8
        · have q2 : decide ((8 : Int) < (u : Int)) = false := by simp; omega
          have p3 : IntKind.i64.wrap x3 = x3 := IntWalk.i64_in _ (by omega)
          have p4 : IntKind.i64.wrap x4 = x4 := IntWalk.i64_in _ (by omega)
          have p6 : IntKind.i64.wrap (256 * x3) = 256 * x3 := IntWalk.i64_in _ (by omega)
          have p7 : IntKind.i64.wrap (256 * x3 + x4) = 256 * x3 + x4 := IntWalk.i64_in _ (by omega)
          go_wp2_with fail
          refine wp_region_ext 21 [0, 1, 2, 3, 4, 5, 6, 7, 8, 9, 10, 11, 12, 13, 14, 15, 16, 17, 18] true rfl (by kernel_rfl) (by kernel_rfl) ?_
          have hd : Below V.heap.size V V.drew := (Below.refl _ _).drew
          apply mixF 0 (by kernel_rfl) (by rfl) (by rfl)
          · (intro w' hx; go_simp <;> with_reducible rfl)
          simp only [Act.put, List.setIfInBounds_toArray, List.set_cons_zero, List.set_cons_succ]
          apply mixF 1 (by kernel_rfl) (by rfl) (by rfl)
          · (intro w' hx; go_simp <;> with_reducible rfl)
          simp only [Act.put, List.setIfInBounds_toArray, List.set_cons_zero, List.set_cons_succ]
          apply mixF 2 (by kernel_rfl) (by rfl) (by rfl)
          · (intro w' hx; have q := (hx.cell (p := ⟨b, o, none⟩) (show b < V.heap.size by omega)).trans c0; go_simp <;> with_reducible rfl)
          simp only [Act.put, List.setIfInBounds_toArray, List.set_cons_zero, List.set_cons_succ]
          apply mixF 3 (by kernel_rfl) (by rfl) (by rfl)
          · (intro w' hx; go_simp <;> with_reducible rfl)
          simp only [Act.put, List.setIfInBounds_toArray, List.set_cons_zero, List.set_cons_succ]
          apply mixF 4 (by kernel_rfl) (by rfl) (by rfl)
          · (intro w' hx; go_simp <;> with_reducible rfl)
          simp only [Act.put, List.setIfInBounds_toArray, List.set_cons_zero, List.set_cons_succ]
          apply mixF 5 (by kernel_rfl) (by rfl) (by rfl)
          · (intro w' hx; go_simp <;> with_reducible rfl)
          simp only [Act.put, List.setIfInBounds_toArray, List.set_cons_zero, List.set_cons_succ]
          apply mixF 6 (by kernel_rfl) (by rfl) (by rfl)
          · (intro w' hx; have q := (hx.cell (p := ⟨b, o + 2, none⟩) (show b < V.heap.size by omega)).trans c2; go_simp <;> with_reducible rfl)
          simp only [Act.put, List.setIfInBounds_toArray, List.set_cons_zero, List.set_cons_succ]
          apply mixF 7 (by kernel_rfl) (by rfl) (by rfl)
          · (intro w' hx; go_simp <;> with_reducible rfl)
          simp only [Act.put, List.setIfInBounds_toArray, List.set_cons_zero, List.set_cons_succ]
          apply mixF 8 (by kernel_rfl) (by rfl) (by rfl)
          · (intro w' hx; go_simp <;> with_reducible rfl)
          simp only [Act.put, List.setIfInBounds_toArray, List.set_cons_zero, List.set_cons_succ]
          apply mixF 9 (by kernel_rfl) (by rfl) (by rfl)
          · (intro w' hx; go_simp <;> with_reducible rfl)
          simp only [Act.put, List.setIfInBounds_toArray, List.set_cons_zero, List.set_cons_succ]
          apply mixF 10 (by kernel_rfl) (by rfl) (by rfl)
          · (intro w' hx; have q := (hx.cell (p := ⟨b, o + 3, none⟩) (show b < V.heap.size by omega)).trans c3; go_simp <;> with_reducible rfl)
          simp only [Act.put, List.setIfInBounds_toArray, List.set_cons_zero, List.set_cons_succ]
          apply mixF 11 (by kernel_rfl) (by rfl) (by rfl)
          · (intro w' hx; go_simp <;> with_reducible rfl)
          simp only [Act.put, List.setIfInBounds_toArray, List.set_cons_zero, List.set_cons_succ]
          apply mixF 12 (by kernel_rfl) (by rfl) (by rfl)
          · (intro w' hx; go_simp <;> with_reducible rfl)
          simp only [Act.put, List.setIfInBounds_toArray, List.set_cons_zero, List.set_cons_succ]
          apply mixF 13 (by kernel_rfl) (by rfl) (by rfl)
          · (intro w' hx; go_simp <;> with_reducible rfl)
          simp only [Act.put, List.setIfInBounds_toArray, List.set_cons_zero, List.set_cons_succ]
          apply mixF 14 (by kernel_rfl) (by rfl) (by rfl)
          · (intro w' hx; go_simp <;> with_reducible rfl)
          simp only [Act.put, List.setIfInBounds_toArray, List.set_cons_zero, List.set_cons_succ]
          apply mixF 15 (by kernel_rfl) (by rfl) (by rfl)
          · (intro w' hx; have q := (hx.cell (p := ⟨b, o + 4, none⟩) (show b < V.heap.size by omega)).trans c4; go_simp <;> with_reducible rfl)
          simp only [Act.put, List.setIfInBounds_toArray, List.set_cons_zero, List.set_cons_succ]
          apply mixF 16 (by kernel_rfl) (by rfl) (by rfl)
          · (intro w' hx; go_simp <;> with_reducible rfl)
          simp only [Act.put, List.setIfInBounds_toArray, List.set_cons_zero, List.set_cons_succ]
          apply mixF 17 (by kernel_rfl) (by rfl) (by rfl)
          · (intro w' hx; go_simp <;> with_reducible rfl)
          simp only [Act.put, List.setIfInBounds_toArray, List.set_cons_zero, List.set_cons_succ]
          apply mixF 18 (by kernel_rfl) (by rfl) (by rfl)
          · (intro w' hx; go_simp <;> with_reducible rfl)
          simp only [Act.put, List.setIfInBounds_toArray, List.set_cons_zero, List.set_cons_succ]
          refine mixS 19 (by kernel_rfl) (by kernel_rfl) (by rfl) (by rfl) (fun K hK => ?_)
          go_wp2
          refine hK.out _ _ (ext_alloc _ _) ?_
          clear hK K
          try simp only [Act.put, List.setIfInBounds_toArray, List.set_cons_zero, List.set_cons_succ]
          obtain ⟨w5, hw5⟩ : ∃ w5, w5 = V.drew.alloc (.cells #[.int .i64 0, .int .i64 0, .int .i64 0, .slice none 0 0] 32) := ⟨_, rfl⟩
          first | rw [← hw5] | rw [show (V.alloc (.cells #[.int .i64 0, .int .i64 0, .int .i64 0, .slice none 0 0] 32)).drew = w5 by rw [hw5]; rfl]
          have he5 : Ext V.drew w5 := by rw [hw5]; exact ext_alloc _ _
          have b9 : Box w5 V.heap.size 32 #[.int .i64 0, .int .i64 0, .int .i64 0, .slice none 0 0] := by rw [hw5]; exact Box.new _ _ _ rfl
          have hd := ext_trans hd he5
          clear hw5 he5
          have n0 := b9.cell 0 rfl
          have n1 := b9.cell 1 rfl
          have n2 := b9.cell 2 rfl
          have n3 := b9.cell 3 rfl
          have zn := b9.free
          refine mixLast 20 (by kernel_rfl) (by kernel_rfl) (by kernel_rfl) (by rfl) (by rfl) (fun K hK => ?_)
          have hK' := Lib.hid hK
          clear hK
          go_wp2
          refine hK'.out _ _ ?_
          clear hK' K n0 n1 n2 n3 zn
          refine NoPanic.normal ?_
          obtain ⟨w6, hw6⟩ : ∃ w6, w6 = (((w5.setCell ⟨V.heap.size, 0, none⟩ (.int .i64 x0)).setCell ⟨V.heap.size, 1, none⟩ (.int .i64 x2)).setCell ⟨V.heap.size, 2, none⟩ (.int .i64 (256 * x3 + x4))).setCell ⟨V.heap.size, 3, none⟩ (.slice none 0 0) := ⟨_, rfl⟩
          rw [← hw6]
          have b9 : Box w6 V.heap.size 32 #[.int .i64 x0, .int .i64 x2, .int .i64 (256 * x3 + x4), .slice none 0 0] := by
            rw [hw6]
            exact (((b9.set 0 _).set 1 _).set 2 _).set 3 _
          have hd6 : Below V.heap.size V w6 := by rw [hw6]; (repeat (with_reducible (first | assumption | exact Below.refl _ _ | refine Below.setCell ?_ (by simp <;> omega) _ | refine Below.alloc ?_ (by simp <;> omega) _ | refine Below.drew ?_ | refine below_drewN ?_ _)))
          clear hw6 hd
          go_wp2_with fail
          have q3 : IntKind.i64.wrap (6 + (u : Int)) = 6 + (u : Int) := IntWalk.i64_in _ (by omega)
          go_loopw [8] (fun i wr => ∃ (j : Nat) (v : Value), 6 ≤ j ∧ j ≤ 14 ∧ i = .int .i64 j ∧ Box wr V.heap.size 32 #[.int .i64 x0, .int .i64 x2, .int .i64 (256 * x3 + x4), v] ∧
              wr.ownsRow (V.heap.size + 1) 5 1 v (min (j - 6) u) (u8s ((l.drop 6).take (min (j - 6) u))) ∧ Hid (((l.drop (6 + u)).take (j - 6 - u)).any (fun c => c != 0) = false) ∧ Below V.heap.size V wr) (fun i _ => 14 - (intOf i).toNat)
          case atStart => exact ⟨6, _, by omega, by omega, rfl, b9, by rw [show min (6 - 6) u = 0 by omega]; exact own_nil _ _ _ _, (show _ = _ from by simp), hd6⟩
          case round =>
            obtain ⟨j, v, hj6, hj14, rfl, b7, hown, ha, hdr⟩ := hrel
            have hzr := hdr.size
            have hbr : By wr B (some ⟨b, o, none⟩) 16 c l := Sl.below hb (hdr.mono (by omega))
            have bRr := bR.below hdr (by omega)
            have her : Ext w wr := he.trans (hdr.mono (by omega))
            obtain ⟨_, _, y5, e', _, c5r, _, _, Y5⟩ := hbr.byte (k := 5) (by omega)
            cases e'
            have e5 : y5 = (u : Int) := Y5.out.trans X5.out.symm
            subst e5
            have i0 : (0 : Int) ≤ (j : Int) := by omega
            by_cases hlt : j < 14
            · have i1 : (j : Int) < 14 := by omega
              have i2 : (j : Int) < 16 := by omega
              obtain ⟨_, _, y, e', _, cy, y0, y1, Y⟩ := hbr.byte (k := j) (by omega)
              cases e'
              have i3 : IntKind.i64.wrap ((j : Int) + 1) = (j : Int) + 1 := IntWalk.i64_in _ (by omega)
              by_cases hju : j < 6 + u
              · have q5 : (j : Int) < 6 + (u : Int) := by omega
                have em : min (j - 6) u = j - 6 := by omega
                rw [em] at hown
                obtain ⟨Av, cv, rfl, hsv⟩ := own_shape hown
                go_wp2_with fail
                refine wp_region_below (V.heap.size + 1) 10 [0, 1, 2, 3, 4, 5, 8] true rfl (by kernel_rfl) (by kernel_rfl) ?_
                obtain ⟨D, hD⟩ : ∃ D, D = wr.drew := ⟨_, rfl⟩
                rw [← hD]
                have bD : Box D V.heap.size 32 #[.int .i64 x0, .int .i64 x2, .int .i64 (256 * x3 + x4), .slice Av (j - 6) cv] := by rw [hD]; exact b7
                have ownD : D.ownsRow (V.heap.size + 1) 5 1 (.slice Av (j - 6) cv) (j - 6) (u8s ((l.drop 6).take (j - 6))) := by rw [hD]; exact hown
                have cyD : D.cell? ⟨b, o + j, none⟩ = some (.int .u8 y) := by rw [hD]; exact cy
                have hdD : Below V.heap.size V D := by rw [hD]; exact hdr.drew
                have hltD := bD.lt
                clear hD
                apply mixF 0 (by kernel_rfl) (by rfl) (by rfl)
                · (intro w' hx; go_simp <;> with_reducible rfl)
                simp only [Act.put, List.setIfInBounds_toArray, List.set_cons_zero, List.set_cons_succ]
                apply mixF 1 (by kernel_rfl) (by rfl) (by rfl)
                · (intro w' hx; have q := (bD.below hx (by omega)).cell 3 rfl; go_simp <;> with_reducible rfl)
                simp only [Act.put, List.setIfInBounds_toArray, List.set_cons_zero, List.set_cons_succ]
                apply mixF 2 (by kernel_rfl) (by rfl) (by rfl)
                · (intro w' hx; go_simp <;> with_reducible rfl)
                simp only [Act.put, List.setIfInBounds_toArray, List.set_cons_zero, List.set_cons_succ]
                apply mixF 3 (by kernel_rfl) (by rfl) (by rfl)
                · (intro w' hx; go_simp <;> with_reducible rfl)
                simp only [Act.put, List.setIfInBounds_toArray, List.set_cons_zero, List.set_cons_succ]
                apply mixF 4 (by kernel_rfl) (by rfl) (by rfl)
                · (intro w' hx; go_simp <;> with_reducible rfl)
                simp only [Act.put, List.setIfInBounds_toArray, List.set_cons_zero, List.set_cons_succ]
                apply mixF 5 (by kernel_rfl) (by rfl) (by rfl)
                · (intro w' hx; have q := (hx.cell (p := ⟨b, o + j, none⟩) (show b < V.heap.size + 1 by omega)).trans cyD; go_simp <;> with_reducible rfl)
                simp only [Act.put, List.setIfInBounds_toArray, List.set_cons_zero, List.set_cons_succ]
                refine mixS 6 (by kernel_rfl) (by kernel_rfl) (by rfl) (by rfl) (fun K hK => ?_)
                go_wp2
                refine hK.out _ _ ((ext_alloc _ _).mono (by omega)) ?_
                clear hK K
                try simp only [Act.put, List.setIfInBounds_toArray, List.set_cons_zero, List.set_cons_succ]
                obtain ⟨w4, hw4⟩ : ∃ w4, w4 = D.alloc (.cells #[.int .u8 y] 5) := ⟨_, rfl⟩
                rw [← hw4]
                have he4 : Ext D w4 := by rw [hw4]; exact ext_alloc _ _
                have hs4 : Sl w4 w4.heap.size 1 (some ⟨D.heap.size, 0, none⟩) 1 1 [.int .u8 y] := by rw [hw4]; exact Sl.new _ _ _ _ 1 1 rfl (by unfold maxLen; omega) (by simp)
                have own4 := own_ext ownD he4
                have hz4 := he4.size
                clear hw4
                refine mixS 7 (by kernel_rfl) (by kernel_rfl) (by rfl) (by rfl) (fun K hK => ?_)
                refine wp_app_u8 (.tmp 73) (.tmp 78) rfl (V.heap.size + 1) (.slice Av (j - 6) cv) (j - 6) _ rfl own4 _ _ 1 1 [.int .u8 y] rfl hs4 (by simp [Value.oneCell']) (by rw [blim_def]; omega) (by omega) ?_
                intro v7 w7 own7 hg7 hb7 hat7
                refine hK.out _ _ hb7 ?_
                clear hK K hat7
                try simp only [Act.put, List.setIfInBounds_toArray, List.set_cons_zero, List.set_cons_succ]
                have hd7 : Below (V.heap.size + 1) D w7 := (he4.mono (by omega)).trans hb7
                have b8_ := bD.below hd7 (by omega)
                have n0 := b8_.cell 3 rfl
                have zn := b8_.free
                apply mixF 8 (by kernel_rfl) (by rfl) (by rfl)
                · (intro w' hx; go_simp <;> with_reducible rfl)
                simp only [Act.put, List.setIfInBounds_toArray, List.set_cons_zero, List.set_cons_succ]
                refine mixLast 9 (by kernel_rfl) (by kernel_rfl) (by kernel_rfl) (by rfl) (by rfl) (fun K hK => ?_)
                obtain ⟨A7, c7, rfl, hs7⟩ := own_shape own7
                have hK' := Lib.hid hK
                clear hK
                go_wp2
                refine hK'.out _ _ ?_
                clear hK' K n0 zn
                refine NoPanic.normal ?_
                have hu' : (u8s ((l.drop 6).take (j - 6)) ++ [Value.int .u8 y]) = u8s ((l.drop 6).take (j - 6 + 1)) := by
                  rw [List.take_succ_eq_append_getElem (by rw [List.length_drop]; have := Hl.out; omega), u8s_append]
                  congr 1
                  have e6 : 6 + (j - 6) = j := by omega
                  simp only [List.getElem_drop, e6, u8s, List.map_cons, List.map_nil, u8v]
                  have := Y.out
                  rw [List.getD_eq_getElem?_getD, List.getElem?_eq_getElem (by have := Hl.out; omega)] at this
                  rw [this]
                  rfl
                rw [hu'] at own7
                clear hu' b7 bD
                go_wp2
                go_roundw
                case rel =>
                  refine ⟨j + 1, _, by omega, by omega, by go_num, b8_.set 3 _, ?_, ?_, ?_⟩
                  · have em' : min (j + 1 - 6) u = j - 6 + 1 := by omega
                    rw [em']
                    exact own_set own7 (by simp) _
                  · have : j + 1 - 6 - u = 0 := by omega
                    rw [this]; show _ = _; simp
                  · exact (hdD.trans (hd7.mono (by omega))).setCell (Nat.le_refl _) _
                case measure => simp [intOf]; omega
              · have q5 : ¬ ((j : Int) < 6 + (u : Int)) := by omega
                have em : min (j - 6) u = u := by omega
                rw [em] at hown
                have e6 : 6 + u + (j - 6 - u) = j := by omega
                by_cases hy : y = 0
                · subst hy
                  have hs := Lib.hid (any_succ l (6 + u) (j - 6 - u) ha.out (by rw [e6]; apply UInt8.toNat_inj.1; have := Y.out; simp only [UInt8.toNat_zero]; omega))
                  have hj1 : j - 6 - u + 1 = j + 1 - 6 - u := by omega
                  rw [hj1] at hs
                  have em' : min (j + 1 - 6) u = u := by omega
                  go_wp2_with fail
                  go_roundw
                  case rel => exact ⟨j + 1, v, by omega, by omega, by go_num, b7, by rw [em']; exact hown, hs, hdr⟩
                  case measure => simp [intOf]; omega
                · have qy : (y != 0) = true := by simpa using hy
                  have Hr := Lib.hid (show rRead l k = (rZero, 2) by
                    have e5 : (l.getD 5 0).toNat = u := by have := X5.out; omega
                    unfold rRead
                    rw [if_neg (by have := Hl.out; omega), if_neg (by rw [Hs.out]; simp), if_neg (by rw [← X1.out, hk]; simp), e5, if_neg (by omega), any_true l (6 + u) (8 - u) (j - 6 - u) (by omega) (by have := Hl.out; omega) (by rw [e6]; intro e0; apply hy; rw [Y.out, e0]; rfl)]
                    rfl)
                  have bR := bRr
                  go_wp2_with fail
                  refine (bad_w _ _).mono ?_
                  rintro e wb ⟨rfl, heb⟩
                  have heb' : Ext w wb := ext_trans (by (repeat (with_reducible (first | assumption | exact Below.refl _ _ | refine Below.setCell ?_ (by simp <;> omega) _ | refine Below.alloc ?_ (by simp <;> omega) _ | refine Below.drew ?_ | refine below_drewN ?_ _)))) heb
                  have bB : Box wb w.heap.size 32 #[.int .i64 0, .int .i64 0, .int .i64 0, .slice none 0 0] := by
                    refine Box.ext ?_ heb
                    first | exact bR | exact Box.new _ _ _ rfl
                  have t0 := bB.cell 0 rfl
                  have t1 := bB.cell 1 rfl
                  have t2 := bB.cell 2 rfl
                  have t3 := bB.cell 3 rfl
                  have tz := bB.free
                  go_wp2
                  ((try simp only [Exit.inBlock, Exit.then]); refine bodyPost_ret (v := ?_) ?resultOf rfl ?_; case resultOf => (rw [results_cell_tmp rfl]; go_simp; rfl))
                  rw [Hr.out]
                  refine ⟨_, _, rfl, rfl, own_zero _ _, ?_⟩
                  (repeat (with_reducible (first | assumption | exact Below.refl _ _ | refine Below.setCell ?_ (by simp <;> omega) _ | refine Below.alloc ?_ (by simp <;> omega) _ | refine Below.drew ?_ | refine below_drewN ?_ _)))
            · have hj : j = 14 := by omega
              subst hj
              have em : min (14 - 6) u = u := by omega
              have em2 : 14 - 6 - u = 8 - u := by omega
              rw [em] at hown
              rw [em2] at ha
              obtain ⟨Av, cv, rfl, hsv⟩ := own_shape hown
              have n0 := b7.cell 0 rfl
              have n1 := b7.cell 1 rfl
              have n2 := b7.cell 2 rfl
              have n3 := b7.cell 3 rfl
              go_wp2_with fail
              refine (refWrong_w (r := ⟨x0, x2, 256 * x3 + x4, (l.drop 6).take u⟩) _ (Sl.of_own hown)).mono ?_
              rintro e w7 ⟨rfl, he7⟩
              obtain ⟨z, hz⟩ : ∃ z, z = rWrong ⟨x0, x2, 256 * x3 + x4, (l.drop 6).take u⟩ := ⟨_, rfl⟩
              rw [← hz]
              have hT : rTold l = ⟨x0, x2, 256 * x3 + x4, (l.drop 6).take u⟩ := by
                unfold rTold sNum
                rw [← X0.out, ← X2.out, ← X3.out, ← X4.out]
                have e5 : (l.getD 5 0).toNat = u := by have := X5.out; omega
                rw [e5, show 256 * x3 + x4 = x3 * 256 + x4 by omega]
              have hR : rRead l k = if rWrong (rTold l) ≠ 0 then (rZero, rWrong (rTold l)) else (rTold l, 0) := by
                have e5 : (l.getD 5 0).toNat = u := by have := X5.out; omega
                unfold rRead
                rw [if_neg (by have := Hl.out; omega), if_neg (by rw [Hs.out]; simp), if_neg (by rw [← X1.out, hk]; simp), e5, if_neg (by omega), ha.out]
                rfl
              rw [hT, ← hz] at hR
              have b9 := b7.ext he7
              have bR := bRr.ext he7
              have own7 := own_ext hown he7
              have her : Ext w w7 := ext_trans her he7
              clear b7 bRr he7
              have n0 := b9.cell 0 rfl
              have n1 := b9.cell 1 rfl
              have n2 := b9.cell 2 rfl
              have n3 := b9.cell 3 rfl
              have r0 := bR.cell 0 rfl
              have r1 := bR.cell 1 rfl
              have r2 := bR.cell 2 rfl
              have r3 := bR.cell 3 rfl
              have zr := bR.free
              by_cases hz0 : z = 0
              · subst hz0
                have Hr : Hid (rRead l k = (⟨x0, x2, 256 * x3 + x4, (l.drop 6).take u⟩, 0)) := by show _ = _; rw [hR]; rfl
                have Hlu : Hid (((l.drop 6).take u).length = u) := by
                  show _ = _
                  have := Hl.out
                  rw [List.length_take, List.length_drop]
                  omega
                clear hR hT hz hsv hown
                go_wp2
                ((try simp only [Exit.inBlock, Exit.then]); refine bodyPost_ret (v := ?_) ?resultOf rfl ?_; case resultOf => (rw [results_cell_tmp rfl]; go_simp; rfl))
                rw [Hr.out]
                refine ⟨_, _, rfl, rfl, ⟨Av, cv, ?_, ?_⟩, ?_⟩
                · rw [Hlu.out]
                · rw [Hlu.out]
                  refine own_more (base := V.heap.size + 1) ?_ (by omega)
                  (repeat (with_reducible (first | assumption | refine own_set ?_ (by simp <;> omega) _ | refine own_alloc ?_ _)))
                · (repeat (with_reducible (first | assumption | exact Below.refl _ _ | refine Below.setCell ?_ (by simp <;> omega) _ | refine Below.alloc ?_ (by simp <;> omega) _ | refine Below.drew ?_ | refine below_drewN ?_ _)))
              · have qz : (z != 0) = true := by simpa using hz0
                have Hr : Hid (rRead l k = (rZero, z)) := by show _ = _; rw [hR, if_pos hz0]
                clear hR hT hz hsv hown r0 r1 r2 r3 zr
                go_wp2_with fail
                refine (bad_w _ _).mono ?_
                rintro e wb ⟨rfl, heb⟩
                have heb' : Ext w wb := ext_trans (by (repeat (with_reducible (first | assumption | exact Below.refl _ _ | refine Below.setCell ?_ (by simp <;> omega) _ | refine Below.alloc ?_ (by simp <;> omega) _ | refine Below.drew ?_ | refine below_drewN ?_ _)))) heb
                have bB : Box wb w.heap.size 32 #[.int .i64 0, .int .i64 0, .int .i64 0, .slice none 0 0] := by
                  refine Box.ext ?_ heb
                  first | exact bR | exact Box.new _ _ _ rfl
                have t0 := bB.cell 0 rfl
                have t1 := bB.cell 1 rfl
                have t2 := bB.cell 2 rfl
                have t3 := bB.cell 3 rfl
                have tz := bB.free
                go_wp2
                ((try simp only [Exit.inBlock, Exit.then]); refine bodyPost_ret (v := ?_) ?resultOf rfl ?_; case resultOf => (rw [results_cell_tmp rfl]; go_simp; rfl))
                rw [Hr.out]
                refine ⟨_, _, rfl, rfl, own_zero _ _, ?_⟩
                (repeat (with_reducible (first | assumption | exact Below.refl _ _ | refine Below.setCell ?_ (by simp <;> omega) _ | refine Below.alloc ?_ (by simp <;> omega) _ | refine Below.drew ?_ | refine below_drewN ?_ _)))
        · have Hr := Lib.hid (show rRead l k = (rZero, 4) by unfold rRead; rw [if_neg (by have := Hl.out; omega), if_neg (by rw [Hs.out]; simp), if_neg (by rw [← X1.out, hk]; simp), if_pos (by have := X5.out; omega)])
          have q2 : decide ((8 : Int) < (u : Int)) = true := by simp; omega
          go_wp2_with fail
          refine (bad_w _ _).mono ?_
          rintro e wb ⟨rfl, heb⟩
          have heb' : Ext w wb := ext_trans (by (repeat (with_reducible (first | assumption | exact Below.refl _ _ | refine Below.setCell ?_ (by simp <;> omega) _ | refine Below.alloc ?_ (by simp <;> omega) _ | refine Below.drew ?_ | refine below_drewN ?_ _)))) heb
          have bB : Box wb w.heap.size 32 #[.int .i64 0, .int .i64 0, .int .i64 0, .slice none 0 0] := by
            refine Box.ext ?_ heb
            first | exact bR | exact Box.new _ _ _ rfl
          have t0 := bB.cell 0 rfl
          have t1 := bB.cell 1 rfl
          have t2 := bB.cell 2 rfl
          have t3 := bB.cell 3 rfl
          have tz := bB.free
          go_wp2
          ((try simp only [Exit.inBlock, Exit.then]); refine bodyPost_ret (v := ?_) ?resultOf rfl ?_; case resultOf => (rw [results_cell_tmp rfl]; go_simp; rfl))
          rw [Hr.out]
          refine ⟨_, _, rfl, rfl, own_zero _ _, ?_⟩
          (repeat (with_reducible (first | assumption | exact Below.refl _ _ | refine Below.setCell ?_ (by simp <;> omega) _ | refine Below.alloc ?_ (by simp <;> omega) _ | refine Below.drew ?_ | refine below_drewN ?_ _)))
      · have Hr := Lib.hid (show rRead l k = (rZero, 8) by unfold rRead; rw [if_neg (by have := Hl.out; omega), if_neg (by rw [Hs.out]; simp), if_pos (by rw [← X1.out]; exact hk)])
        have q1 : (x1 != k) = true := by simpa using hk
        go_wp2_with fail
        refine (bad_w _ _).mono ?_
        rintro e wb ⟨rfl, heb⟩
        have heb' : Ext w wb := ext_trans (by (repeat (with_reducible (first | assumption | exact Below.refl _ _ | refine Below.setCell ?_ (by simp <;> omega) _ | refine Below.alloc ?_ (by simp <;> omega) _ | refine Below.drew ?_ | refine below_drewN ?_ _)))) heb
        have bB : Box wb w.heap.size 32 #[.int .i64 0, .int .i64 0, .int .i64 0, .slice none 0 0] := by
          refine Box.ext ?_ heb
          first | exact bR | exact Box.new _ _ _ rfl
        have t0 := bB.cell 0 rfl
        have t1 := bB.cell 1 rfl
        have t2 := bB.cell 2 rfl
        have t3 := bB.cell 3 rfl
        have tz := bB.free
        go_wp2
        ((try simp only [Exit.inBlock, Exit.then]); refine bodyPost_ret (v := ?_) ?resultOf rfl ?_; case resultOf => (rw [results_cell_tmp rfl]; go_simp; rfl))
        rw [Hr.out]
        refine ⟨_, _, rfl, rfl, own_zero _ _, ?_⟩
        (repeat (with_reducible (first | assumption | exact Below.refl _ _ | refine Below.setCell ?_ (by simp <;> omega) _ | refine Below.alloc ?_ (by simp <;> omega) _ | refine Below.drew ?_ | refine below_drewN ?_ _)))
  · have q1 : ((n : Int) != 16) = true := by rw [bne_iff_ne]; omega
    have Hr := Lib.hid (show rRead l k = (rZero, 2) by unfold rRead; rw [if_pos (by omega)])
    go_enter Try.func43, Try.ntmps43
    go_wp2_with fail
    refine (bad_w _ _).mono ?_
    rintro e wb ⟨rfl, heb⟩
    have heb' : Ext w wb := ext_trans (by (repeat (with_reducible (first | assumption | exact Below.refl _ _ | refine Below.setCell ?_ (by simp <;> omega) _ | refine Below.alloc ?_ (by simp <;> omega) _ | refine Below.drew ?_ | refine below_drewN ?_ _)))) heb
    have bB : Box wb w.heap.size 32 #[.int .i64 0, .int .i64 0, .int .i64 0, .slice none 0 0] := by
      refine Box.ext ?_ heb
      first | exact bR | exact Box.new _ _ _ rfl
    have t0 := bB.cell 0 rfl
    have t1 := bB.cell 1 rfl
    have t2 := bB.cell 2 rfl
    have t3 := bB.cell 3 rfl
    have tz := bB.free
    go_wp2
    ((try simp only [Exit.inBlock, Exit.then]); refine bodyPost_ret (v := ?_) ?resultOf rfl ?_; case resultOf => (rw [results_cell_tmp rfl]; go_simp; rfl))
    rw [Hr.out]
    refine ⟨_, _, rfl, rfl, own_zero _ _, ?_⟩
    (repeat (with_reducible (first | assumption | exact Below.refl _ _ | refine Below.setCell ?_ (by simp <;> omega) _ | refine Below.alloc ?_ (by simp <;> omega) _ | refine Below.drew ?_ | refine below_drewN ?_ _)))

end Go.Proofs.Ytnganglmpcbcbaa
